/- The engine, part a: abstract values, and what it means that a value in memory reads as one; both are kept by worlds that agree on the blocks that are read. -/
import Derived.WalkKit
import Derived.IntWalk
import Derived.Maps.AppendAt
namespace Go.Proofs.Ythmgfgiaagkdeaa
open Go.RowKit

/-- The value of one cell: a number, a truth, a slice that is only read (its tag, its length, its cells), a slice that is owned (its element type, cells an element, length, cells), a plain function. -/
inductive CV where
  | int (k : IntKind) (n : Int)
  | bool (b : Bool)
  | nil
  | rd (t n : Nat) (xs : List CV)
  | ow (ty e n : Nat) (xs : List CV)
  | fn (f : Nat)

/-- Immutable blocks, by tag. -/
abbrev Im := Nat → Nat → Prop

/-- The slice value: block (or nil), offset in cells, length, capacity. -/
def slv (a : Option Nat) (o n c : Nat) : Value := .slice (a.map fun b => ⟨b, o, none⟩) n c

mutual
def R (im : Im) (w : World) : CV → Value → List Nat → Prop
  | .int k n, v, fp => v = .int k n ∧ fp = []
  | .bool b, v, fp => v = .bool b ∧ fp = []
  | .nil, v, fp => v = .slice none 0 0 ∧ fp = []
  | .rd t n xs, v, fp => fp = [] ∧ ∃ A c, v = .slice A n c ∧ n ≤ c ∧ c ≤ maxLen ∧ (xs = [] ∨ ∃ b o, A = some ⟨b, o, none⟩ ∧ im t b ∧ RL im w b xs o [])
  | .ow ty e n xs, v, fp => (v = .slice none 0 0 ∧ n = 0 ∧ xs = [] ∧ fp = []) ∨
      ∃ b c cur f, v = .slice (some ⟨b, 0, none⟩) n c ∧ n ≤ c ∧ c ≤ maxLen ∧ w.heap[b]? = some (.cells cur ty (0, 0)) ∧ cur.size = c * e ∧ fp = b :: f ∧ RL im w b xs 0 f
  | .fn f, v, fp => v = .func (.func f) #[] #[] ∧ fp = []
def RL (im : Im) (w : World) (b : Nat) : List CV → Nat → List Nat → Prop
  | [], _, fp => fp = []
  | x :: xs, o, fp => ∃ u f1 f2, fp = f1 ++ f2 ∧ w.cell? ⟨b, o, none⟩ = some u ∧ R im w x u f1 ∧ RL im w b xs (o + 1) f2
end

theorem cell_of_same {w w' : World} {b o : Nat} (h : w'.heap[b]? = w.heap[b]?) : w'.cell? ⟨b, o, none⟩ = w.cell? ⟨b, o, none⟩ :=
  World.cell?_of_block (a := ⟨b, o, none⟩) h

mutual
theorem R_mono {im im' : Im} {w w' : World} (hi : ∀ t b, im t b → im' t b ∧ w'.heap[b]? = w.heap[b]?) : ∀ (x : CV) (v : Value) (fp : List Nat), (∀ b ∈ fp, w'.heap[b]? = w.heap[b]?) → R im w x v fp → R im' w' x v fp
  | .int k n, v, fp, _, h => by simpa only [R] using h
  | .bool b, v, fp, _, h => by simpa only [R] using h
  | .nil, v, fp, _, h => by simpa only [R] using h
  | .fn f, v, fp, _, h => by simpa only [R] using h
  | .rd t n xs, v, fp, _, h => by
    simp only [R] at h ⊢
    obtain ⟨h1, A, c, h2, h3, h4, h5⟩ := h
    refine ⟨h1, A, c, h2, h3, h4, ?_⟩
    rcases h5 with h5 | ⟨b, o, h5, h6, h7⟩
    · exact .inl h5
    · exact .inr ⟨b, o, h5, (hi t b h6).1, RL_mono hi xs b o [] (hi t b h6).2 (fun b hb => by cases hb) h7⟩
  | .ow ty e n xs, v, fp, hf, h => by
    simp only [R] at h ⊢
    rcases h with h | ⟨b, c, cur, f, h1, h2, h3, h4, h5, h6, h7⟩
    · exact .inl h
    · have hb : w'.heap[b]? = w.heap[b]? := hf b (by rw [h6]; exact List.mem_cons_self)
      exact .inr ⟨b, c, cur, f, h1, h2, h3, hb.trans h4, h5, h6, RL_mono hi xs b 0 f hb (fun b hb => hf b (by rw [h6]; exact List.mem_cons_of_mem _ hb)) h7⟩
theorem RL_mono {im im' : Im} {w w' : World} (hi : ∀ t b, im t b → im' t b ∧ w'.heap[b]? = w.heap[b]?) : ∀ (xs : List CV) (b o : Nat) (fp : List Nat), w'.heap[b]? = w.heap[b]? → (∀ b ∈ fp, w'.heap[b]? = w.heap[b]?) → RL im w b xs o fp → RL im' w' b xs o fp
  | [], b, o, fp, _, _, h => by simpa only [RL] using h
  | x :: xs, b, o, fp, hb, hf, h => by
    simp only [RL] at h ⊢
    obtain ⟨u, f1, f2, h1, h2, h3, h4⟩ := h
    exact ⟨u, f1, f2, h1, (cell_of_same hb).trans h2, R_mono hi x u f1 (fun b hb => hf b (by rw [h1]; exact List.mem_append_left _ hb)) h3,
      RL_mono hi xs b (o + 1) f2 hb (fun b hb => hf b (by rw [h1]; exact List.mem_append_right _ hb)) h4⟩
end

/-- One cell, not frozen, not an aggregate. -/
theorem R_one {im : Im} {w : World} {x : CV} {v : Value} {fp : List Nat} (h : R im w x v fp) : v.oneCell' = true := by
  cases x <;> simp only [R] at h
  · rw [h.1]; rfl
  · rw [h.1]; rfl
  · rw [h.1]; rfl
  · obtain ⟨_, A, c, h, _⟩ := h; rw [h]; rfl
  · rcases h with ⟨h, _⟩ | ⟨b, c, cur, f, h, _⟩ <;> rw [h] <;> rfl
  · rw [h.1]; rfl

theorem RL_append {im : Im} {w : World} {b : Nat} : ∀ (xs ys : List CV) (o : Nat) (f g : List Nat), RL im w b xs o f → RL im w b ys (o + xs.length) g → RL im w b (xs ++ ys) o (f ++ g)
  | [], ys, o, f, g, h1, h2 => by simp only [RL] at h1; subst h1; simpa using h2
  | x :: xs, ys, o, f, g, h1, h2 => by
    simp only [RL] at h1
    obtain ⟨u, f1, f2, rfl, h4, h5, h6⟩ := h1
    simp only [List.cons_append, RL]
    refine ⟨u, f1, f2 ++ g, by simp, h4, h5, RL_append xs ys (o + 1) f2 g h6 ?_⟩
    simpa [Nat.add_assoc, Nat.add_comm 1] using h2

/-- The cells from place k on. -/
theorem RL_drop {im : Im} {w : World} {b : Nat} : ∀ (xs : List CV) (k o : Nat) (f : List Nat), RL im w b xs o f → ∃ g, g.Sublist f ∧ RL im w b (xs.drop k) (o + k) g
  | [], k, o, f, h => by simp only [RL] at h; subst h; exact ⟨[], List.Sublist.refl _, by simp [RL]⟩
  | x :: xs, 0, o, f, h => ⟨f, List.Sublist.refl _, by simpa using h⟩
  | x :: xs, k + 1, o, f, h => by
    simp only [RL] at h
    obtain ⟨u, f1, f2, rfl, h4, h5, h6⟩ := h
    obtain ⟨g, hg, h⟩ := RL_drop xs k (o + 1) f2 h6
    exact ⟨g, hg.trans (List.sublist_append_right _ _), by simpa [Nat.add_assoc, Nat.add_comm 1] using h⟩
theorem RL_take {im : Im} {w : World} {b : Nat} : ∀ (xs : List CV) (k o : Nat) (f : List Nat), RL im w b xs o f → ∃ g, g.Sublist f ∧ RL im w b (xs.take k) o g
  | [], k, o, f, h => by simp only [RL] at h; subst h; exact ⟨[], List.Sublist.refl _, by simp [RL]⟩
  | x :: xs, 0, o, f, h => ⟨[], List.nil_sublist _, by simp [RL]⟩
  | x :: xs, k + 1, o, f, h => by
    simp only [RL] at h
    obtain ⟨u, f1, f2, rfl, h4, h5, h6⟩ := h
    obtain ⟨g, hg, h⟩ := RL_take xs k (o + 1) f2 h6
    refine ⟨f1 ++ g, List.Sublist.append (List.Sublist.refl _) hg, ?_⟩
    simp only [List.take_succ_cons, RL]
    exact ⟨u, f1, g, rfl, h4, h5, h⟩
theorem RL_nofp {im : Im} {w : World} {b : Nat} {xs : List CV} {o : Nat} {g : List Nat} (h : RL im w b xs o g) (hg : g.Sublist []) : RL im w b xs o [] := by
  have : g = [] := List.eq_nil_of_sublist_nil hg
  rwa [this] at h
end Go.Proofs.Ythmgfgiaagkdeaa
/- The engine, part b: handles, objects, the abstract state, and what it means that a frame and a world are described by one. -/
namespace Go.Proofs.Ythmgfgiaagkdeaa
open Go.RowKit

def look {α : Type} (t : Nat) : List (Nat × α) → Option α
  | [] => none
  | (s, x) :: r => bif Nat.beq t s then some x else look t r
def upd {α : Type} (t : Nat) (y : α) : List (Nat × α) → List (Nat × α)
  | [] => []
  | (s, x) :: r => bif Nat.beq t s then (s, y) :: r else (s, x) :: upd t y r
def del {α : Type} (t : Nat) : List (Nat × α) → List (Nat × α)
  | [] => []
  | (s, x) :: r => bif Nat.beq t s then r else (s, x) :: del t r
theorem look_split {α : Type} {t : Nat} {x : α} : ∀ {l : List (Nat × α)}, look t l = some x → ∃ l1 l2, l = l1 ++ (t, x) :: l2 ∧ (∀ y, upd t y l = l1 ++ (t, y) :: l2) ∧ del t l = l1 ++ l2
  | [], h => by simp [look] at h
  | (s, z) :: r, h => by
    simp only [look] at h
    cases hs : Nat.beq t s with
    | true =>
      have : t = s := Nat.eq_of_beq_eq_true hs
      subst this
      rw [hs] at h
      simp at h
      subst h
      exact ⟨[], r, rfl, fun y => by simp [upd], by simp [del]⟩
    | false =>
      rw [hs] at h
      obtain ⟨l1, l2, h1, h2, h3⟩ := look_split (l := r) (by simpa using h)
      exact ⟨(s, z) :: l1, l2, by simp [h1], fun y => by simp [upd, hs, h2], by simp [del, hs, h3]⟩
theorem look_cons_eq {α : Type} (t : Nat) (x : α) (l : List (Nat × α)) : look t ((t, x) :: l) = some x := by
  simp [look]
theorem look_cons_ne {α : Type} {t s : Nat} (h : t ≠ s) (x : α) (l : List (Nat × α)) : look t ((s, x) :: l) = look t l := by
  have : Nat.beq t s = false := by
    cases hb : Nat.beq t s with
    | false => rfl
    | true => exact absurd (Nat.eq_of_beq_eq_true hb) h
  simp [look, this]

inductive TI where
  | int (k : IntKind)
  | bool
  | slice (e : Nat)
  | struct (fs : List (Nat × Nat))
  | array (n e : Nat)
structure TInf where
  d : TI
  sz : Nat
  by' : Nat
  zs : List CV
def CV.isV : CV → Value → Bool
  | .int k n, .int k' n' => k == k' && n == n'
  | .bool b, .bool b' => b == b'
  | .nil, .slice none 0 0 => true
  | _, _ => false
def CV.areV : List CV → List Value → Bool
  | [], [] => true
  | x :: xs, v :: vs => x.isV v && CV.areV xs vs
  | _, _ => false
def TI.is (P : Program) : TI → Option TypeDesc → Bool
  | .int k, some (.int k') => k == k'
  | .bool, some .bool => true
  | .slice e, some (.slice e') => e == e'
  | .struct fs, some (.struct fs') => fs == fs'.toList.map (fun f => (f.offset, f.type)) && fs'.toList.all (fun f => match P.info? f.type with | some i => i.size != 0 | none => false)
  | .array n e, some (.array n' e') => n == n' && e == e'
  | _, _ => false
def TI.isAgg : TI → Bool
  | .struct _ | .array .. => true
  | _ => false
def TInf.isOk (P : Program) (t : TypeId) (x : TInf) : Bool :=
  match P.info? t with
  | some i => i.size == x.sz && i.bytes == x.by' && (match i.zero with | some z => CV.areV x.zs z.cells.toList && z.cells.size == x.sz | none => false) && x.d.is P (P.underlying t) && (x.d.isAgg || x.sz == 1)
  | none => false
abbrev TE := List (Nat × TInf)
def teOk (P : Program) (te : TE) : Bool := te.all fun p => p.2.isOk P p.1
structure TInf.Ok (P : Program) (t : TypeId) (x : TInf) : Prop where
  info : ∃ i z, P.info? t = some i ∧ i.size = x.sz ∧ i.bytes = x.by' ∧ i.zero = some z ∧ CV.areV x.zs z.cells.toList = true ∧ z.cells.size = x.sz
  und : x.d.is P (P.underlying t) = true
  one : x.d.isAgg = false → x.sz = 1
theorem teOk_look {P : Program} {te : TE} (h : teOk P te = true) {t : Nat} {x : TInf} (hx : look t te = some x) : x.Ok P t := by
  obtain ⟨l1, l2, hl, _⟩ := look_split hx
  have hm : (t, x) ∈ te := by rw [hl]; simp
  have := List.all_eq_true.1 h _ hm
  simp only [TInf.isOk] at this
  split at this
  · rename_i i hi
    simp only [Bool.and_eq_true, beq_iff_eq] at this
    obtain ⟨⟨⟨⟨h1, h2⟩, h3⟩, h4⟩, h5⟩ := this
    split at h3
    · rename_i z hz
      simp only [Bool.and_eq_true, beq_iff_eq] at h3
      exact ⟨⟨i, z, hi, h1, h2, hz, h3.1, h3.2⟩, h4, fun ha => by simpa [ha] using h5⟩
    · cases h3
  · cases this
theorem isV_R {im : Im} {w : World} {x : CV} {v : Value} (h : x.isV v = true) : R im w x v [] := by
  cases x <;> simp only [CV.isV] at h
  case int k n => cases v <;> simp_all [R]
  case bool b => cases v <;> simp_all [R]
  case nil => split at h <;> simp_all [R]
  case rd => cases h
  case ow => cases h
  case fn => cases h

/-- What a cell of a local variable can be: a plain value; a slice that is owned (object, first element, length); the same, place unknown where it is empty; a pointer into an object; a pointer to cells that are only read. -/
inductive HV where
  | c (x : CV)
  | sl (id i n : Nat)
  | sw (id i n : Nat)
  | ptr (id o : Nat)
  | rp (t : Nat) (xs : List CV)
/-- What is known of the block behind an object: its number (nil: none), its capacity in elements, its elements' type, the cells of one. -/
structure BI where
  a : Option Nat
  cap : Nat
  ty : TypeId
  e : Nat
abbrev Ga := Nat → Option BI
inductive AV where
  | h (x : HV)
  | agg (xs : List HV)
  | tup (xs : List AV)
  | top
inductive Ob where
  | arr (ty e : Nat) (xs : List CV)
  | box (ty : Nat) (xs : List HV)
  | hrr (ty e : Nat) (xs : List HV)

def RH (g : Ga) (im : Im) (w : World) : HV → Value → List Nat → Prop
  | .c x, v, fp => R im w x v fp
  | .sl id i n, v, fp => fp = [] ∧ ∃ bi, g id = some bi ∧ i + n ≤ bi.cap ∧ bi.cap ≤ maxLen ∧ v = slv bi.a (i * bi.e) n (bi.cap - i)
  | .sw id i n, v, fp => fp = [] ∧ ∃ bi A c, g id = some bi ∧ v = .slice A n c ∧ n ≤ c ∧ c ≤ maxLen ∧ (n = 0 ∨ ∃ b, bi.a = some b ∧ A = some ⟨b, i * bi.e, none⟩)
  | .ptr id o, v, fp => fp = [] ∧ ∃ bi b, g id = some bi ∧ bi.a = some b ∧ v = .pointer (some ⟨b, o, none⟩)
  | .rp t xs, v, fp => fp = [] ∧ ∃ b o, v = .pointer (some ⟨b, o, none⟩) ∧ im t b ∧ RL im w b xs o []
def RHs (g : Ga) (im : Im) (w : World) : List HV → List Value → List Nat → Prop
  | [], vs, fp => vs = [] ∧ fp = []
  | x :: xs, vs, fp => ∃ v vs' f1 f2, vs = v :: vs' ∧ fp = f1 ++ f2 ∧ RH g im w x v f1 ∧ RHs g im w xs vs' f2
mutual
def RA (g : Ga) (im : Im) (w : World) : AV → Value → List Nat → Prop
  | .h x, v, fp => RH g im w x v fp
  | .agg xs, v, fp => ∃ cs : List Value, v = .agg cs.toArray ∧ RHs g im w xs cs fp
  | .tup xs, v, fp => ∃ vs : List Value, v = .tuple vs.toArray ∧ RAs g im w xs vs fp
  | .top, _, fp => fp = []
def RAs (g : Ga) (im : Im) (w : World) : List AV → List Value → List Nat → Prop
  | [], vs, fp => vs = [] ∧ fp = []
  | x :: xs, vs, fp => ∃ v vs' f1 f2, vs = v :: vs' ∧ fp = f1 ++ f2 ∧ RA g im w x v f1 ∧ RAs g im w xs vs' f2
end
def RO (g : Ga) (im : Im) (w : World) (bi : BI) : Ob → List Nat → Prop
  | .arr ty e xs, fp => bi.ty = ty ∧ bi.e = e ∧ ((bi.a = none ∧ xs = [] ∧ bi.cap = 0 ∧ fp = []) ∨
      ∃ b cur f, bi.a = some b ∧ fp = b :: f ∧ w.heap[b]? = some (.cells cur ty (0, 0)) ∧ cur.size = bi.cap * e ∧ RL im w b xs 0 f)
  | .box ty xs, fp => ∃ b cs f, bi.a = some b ∧ fp = b :: f ∧ w.heap[b]? = some (.cells (List.toArray cs) ty (0, 0)) ∧ RHs g im w xs cs f
  | .hrr ty e xs, fp => bi.ty = ty ∧ bi.e = e ∧ ((bi.a = none ∧ xs = [] ∧ bi.cap = 0 ∧ fp = []) ∨
      ∃ b cur f us, bi.a = some b ∧ fp = b :: f ∧ w.heap[b]? = some (.cells cur ty (0, 0)) ∧ cur.size = bi.cap * e ∧ RHs g im w xs us f ∧ ∀ j u, us[j]? = some u → w.cell? ⟨b, j, none⟩ = some u)
def HR (g : Ga) (im : Im) (w : World) : List (Nat × Ob) → List Nat → Prop
  | [], fp => fp = []
  | (id, o) :: r, fp => ∃ bi f1 f2, g id = some bi ∧ fp = f1 ++ f2 ∧ RO g im w bi o f1 ∧ HR g im w r f2

section mono
variable {g g' : Ga} {im im' : Im} {w w' : World}
theorem RH_mono (hg : ∀ i b, g i = some b → g' i = some b) (hi : ∀ t b, im t b → im' t b ∧ w'.heap[b]? = w.heap[b]?) (x : HV) (v : Value) (fp : List Nat) (hf : ∀ b ∈ fp, w'.heap[b]? = w.heap[b]?) (h : RH g im w x v fp) : RH g' im' w' x v fp := by
  cases x with
  | c x => exact R_mono hi x v fp hf h
  | sl id i n =>
    obtain ⟨h1, bi, h2, h3⟩ := h
    exact ⟨h1, bi, hg _ _ h2, h3⟩
  | sw id i n =>
    obtain ⟨h1, bi, A, c, h2, h3⟩ := h
    exact ⟨h1, bi, A, c, hg _ _ h2, h3⟩
  | ptr id o =>
    obtain ⟨h1, bi, b, h2, h3⟩ := h
    exact ⟨h1, bi, b, hg _ _ h2, h3⟩
  | rp t xs =>
    obtain ⟨h1, b, o, h2, h3, h4⟩ := h
    exact ⟨h1, b, o, h2, (hi t b h3).1, RL_mono hi xs b o [] (hi t b h3).2 (fun _ h => by cases h) h4⟩
theorem RHs_mono (hg : ∀ i b, g i = some b → g' i = some b) (hi : ∀ t b, im t b → im' t b ∧ w'.heap[b]? = w.heap[b]?) : ∀ (xs : List HV) (vs : List Value) (fp : List Nat), (∀ b ∈ fp, w'.heap[b]? = w.heap[b]?) → RHs g im w xs vs fp → RHs g' im' w' xs vs fp
  | [], vs, fp, _, h => h
  | x :: xs, vs, fp, hf, h => by
    obtain ⟨v, vs', f1, f2, rfl, rfl, h1, h2⟩ := h
    exact ⟨v, vs', f1, f2, rfl, rfl, RH_mono hg hi x v f1 (fun b hb => hf b (List.mem_append_left _ hb)) h1, RHs_mono hg hi xs vs' f2 (fun b hb => hf b (List.mem_append_right _ hb)) h2⟩
mutual
theorem RA_mono (hg : ∀ i b, g i = some b → g' i = some b) (hi : ∀ t b, im t b → im' t b ∧ w'.heap[b]? = w.heap[b]?) : ∀ (x : AV) (v : Value) (fp : List Nat), (∀ b ∈ fp, w'.heap[b]? = w.heap[b]?) → RA g im w x v fp → RA g' im' w' x v fp
  | .h x, v, fp, hf, h => by simp only [RA] at h ⊢; exact RH_mono hg hi x v fp hf h
  | .agg xs, v, fp, hf, h => by
    simp only [RA] at h ⊢
    obtain ⟨cs, h1, h2⟩ := h
    exact ⟨cs, h1, RHs_mono hg hi xs cs fp hf h2⟩
  | .tup xs, v, fp, hf, h => by
    simp only [RA] at h ⊢
    obtain ⟨cs, h1, h2⟩ := h
    exact ⟨cs, h1, RAs_mono hg hi xs cs fp hf h2⟩
  | .top, v, fp, hf, h => by simpa only [RA] using h
theorem RAs_mono (hg : ∀ i b, g i = some b → g' i = some b) (hi : ∀ t b, im t b → im' t b ∧ w'.heap[b]? = w.heap[b]?) : ∀ (xs : List AV) (vs : List Value) (fp : List Nat), (∀ b ∈ fp, w'.heap[b]? = w.heap[b]?) → RAs g im w xs vs fp → RAs g' im' w' xs vs fp
  | [], vs, fp, _, h => by simpa only [RAs] using h
  | x :: xs, vs, fp, hf, h => by
    simp only [RAs] at h ⊢
    obtain ⟨v, vs', f1, f2, rfl, rfl, h1, h2⟩ := h
    exact ⟨v, vs', f1, f2, rfl, rfl, RA_mono hg hi x v f1 (fun b hb => hf b (List.mem_append_left _ hb)) h1, RAs_mono hg hi xs vs' f2 (fun b hb => hf b (List.mem_append_right _ hb)) h2⟩
end
theorem RO_mono (hg : ∀ i b, g i = some b → g' i = some b) (hi : ∀ t b, im t b → im' t b ∧ w'.heap[b]? = w.heap[b]?) (bi : BI) (o : Ob) (fp : List Nat) (hf : ∀ b ∈ fp, w'.heap[b]? = w.heap[b]?) (h : RO g im w bi o fp) : RO g' im' w' bi o fp := by
  cases o with
  | arr ty e xs =>
    obtain ⟨h1, h2, h3 | ⟨b, cur, f, h4, rfl, h6, h7, h8⟩⟩ := h
    · exact ⟨h1, h2, .inl h3⟩
    · have hb := hf b List.mem_cons_self
      exact ⟨h1, h2, .inr ⟨b, cur, f, h4, rfl, hb.trans h6, h7, RL_mono hi xs b 0 f hb (fun c hc => hf c (List.mem_cons_of_mem _ hc)) h8⟩⟩
  | box ty xs =>
    obtain ⟨b, cs, f, h4, rfl, h6, h8⟩ := h
    have hb := hf b List.mem_cons_self
    exact ⟨b, cs, f, h4, rfl, hb.trans h6, RHs_mono hg hi xs cs f (fun c hc => hf c (List.mem_cons_of_mem _ hc)) h8⟩
  | hrr ty e xs =>
    obtain ⟨h1, h2, h3 | ⟨b, cur, f, us, h4, rfl, h6, h7, h8, h9⟩⟩ := h
    · exact ⟨h1, h2, .inl h3⟩
    · have hb := hf b List.mem_cons_self
      exact ⟨h1, h2, .inr ⟨b, cur, f, us, h4, rfl, hb.trans h6, h7, RHs_mono hg hi xs us f (fun c hc => hf c (List.mem_cons_of_mem _ hc)) h8, fun j u hj => (cell_of_same hb).trans (h9 j u hj)⟩⟩
theorem HR_mono (hg : ∀ i b, g i = some b → g' i = some b) (hi : ∀ t b, im t b → im' t b ∧ w'.heap[b]? = w.heap[b]?) : ∀ (hp : List (Nat × Ob)) (fp : List Nat), (∀ b ∈ fp, w'.heap[b]? = w.heap[b]?) → HR g im w hp fp → HR g' im' w' hp fp
  | [], fp, _, h => h
  | (id, o) :: r, fp, hf, h => by
    obtain ⟨bi, f1, f2, h1, rfl, h3, h4⟩ := h
    exact ⟨bi, f1, f2, hg _ _ h1, rfl, RO_mono hg hi bi o f1 (fun b hb => hf b (List.mem_append_left _ hb)) h3, HR_mono hg hi r f2 (fun b hb => hf b (List.mem_append_right _ hb)) h4⟩
end mono

theorem HR_append {g : Ga} {im : Im} {w : World} : ∀ (l1 l2 : List (Nat × Ob)) (fp : List Nat), HR g im w (l1 ++ l2) fp ↔ ∃ f1 f2, fp = f1 ++ f2 ∧ HR g im w l1 f1 ∧ HR g im w l2 f2
  | [], l2, fp => ⟨fun h => ⟨[], fp, rfl, rfl, h⟩, fun ⟨f1, f2, h1, h2, h3⟩ => by simp only [HR] at h2; subst h2; simpa [h1] using h3⟩
  | (id, o) :: l1, l2, fp => by
    simp only [List.cons_append, HR]
    constructor
    · rintro ⟨bi, f1, f2, h1, rfl, h3, h4⟩
      obtain ⟨fa, fb, rfl, ha, hb⟩ := (HR_append l1 l2 f2).1 h4
      exact ⟨f1 ++ fa, fb, by simp, ⟨bi, f1, fa, h1, rfl, h3, ha⟩, hb⟩
    · rintro ⟨fa, fb, rfl, ⟨bi, f1, f2, h1, rfl, h3, ha⟩, hb⟩
      exact ⟨bi, f1, f2 ++ fb, h1, by simp, h3, (HR_append l1 l2 (f2 ++ fb)).2 ⟨f2, fb, rfl, ha, hb⟩⟩

structure AS where
  fr : List (Nat × AV)
  hp : List (Nat × Ob)
  nx : Nat
/-- What surrounds a body: the program, the frame's size, the world in which the call began, the blocks that were handed over to be written. -/
structure Env where
  P : Program
  te : TE
  hte : teOk P te = true
  nt : Nat
  w0 : World
  ps : Nat → Prop
  k : Nat
  g0 : Ga
  im0 : Im
structure Keeps (w0 w : World) (ps : Nat → Prop) : Prop where
  os : w.os = w0.os
  tape : w.tape = w0.tape
  output : w.output = w0.output
  size : w0.heap.size ≤ w.heap.size
  block : ∀ b, b < w0.heap.size → ¬ ps b → w.heap[b]? = w0.heap[b]?
structure SimF (E : Env) (g : Ga) (im : Im) (fps : List Nat) (s : AS) (a : Act) (w : World) : Prop where
  dfr : a.defers = []
  sz : a.tmps.size = E.nt
  fr : ∀ t x, look t s.fr = some x → RA g im w x (a.tmps.getD t undef) []
  hp : HR g im w s.hp fps
  nd : fps.Nodup
  lt : ∀ b ∈ fps, b < w.heap.size
  ni : ∀ b ∈ fps, ∀ t, ¬ im t b
  mine : ∀ b ∈ fps, E.w0.heap.size ≤ b ∨ E.ps b
  gn : ∀ i, s.nx ≤ i → g i = none
  gl : ∀ i bi b, g i = some bi → bi.a = some b → b < w.heap.size
  il : ∀ t b, im t b → b < w.heap.size
  kp : Keeps E.w0 w E.ps
  kn : E.k ≤ s.nx
  g0 : ∀ i, i < E.k → g i = E.g0 i
  i0 : ∀ t b, E.im0 t b → im t b
  i1 : ∀ t b, t < 100 → im t b → E.im0 t b ∨ (t = 0 ∧ E.w0.heap.size ≤ b)
def Sim (E : Env) (g : Ga) (im : Im) (s : AS) (a : Act) (w : World) : Prop := ∃ fps, SimF E g im fps s a w

def AS.put (s : AS) (d : Nat) (x : AV) : AS := { s with fr := (d, x) :: s.fr }
def AS.putd (s : AS) (d : Option Nat) (x : AV) : AS := match d with | some d => s.put d x | none => s

theorem SimF.put {E : Env} {g : Ga} {im : Im} {fps : List Nat} {s : AS} {a : Act} {w : World} (h : SimF E g im fps s a w) {d : Nat} (hd : d < E.nt) {x : AV} {v : Value} (hx : RA g im w x v []) :
    SimF E g im fps (s.put d x) (a.put (some d) v) w := by
  refine ⟨h.dfr, by simp [Act.put, h.sz], ?_, h.hp, h.nd, h.lt, h.ni, h.mine, h.gn, h.gl, h.il, h.kp, h.kn, h.g0, h.i0, h.i1⟩
  intro t y hy
  by_cases ht : t = d
  · subst ht
    simp only [AS.put, look_cons_eq, Option.some.injEq] at hy
    subst hy
    have : (Act.put a (some t) v).tmps.getD t undef = v := by
      simp [Act.put, h.sz, hd]
    rw [this]
    exact hx
  · simp only [AS.put, look_cons_ne ht] at hy
    have : (Act.put a (some d) v).tmps.getD t undef = a.tmps.getD t undef := by
      simp [Act.put, Ne.symm ht]
    rw [this]
    exact h.fr t y hy
theorem SimF.putd {E : Env} {g : Ga} {im : Im} {fps : List Nat} {s : AS} {a : Act} {w : World} (h : SimF E g im fps s a w) {d : Option Nat} (hd : ∀ k, d = some k → k < E.nt) {x : AV} {v : Value} (hx : RA g im w x v []) :
    SimF E g im fps (s.putd d x) (a.put d v) w := by
  cases d with
  | none => exact h
  | some d => exact h.put (hd d rfl) hx
/-- Another world that agrees on all that is described. -/
theorem SimF.world {E : Env} {g : Ga} {im : Im} {fps : List Nat} {s : AS} {a : Act} {w w' : World} (h : SimF E g im fps s a w) (hw : ∀ b, b < w.heap.size → w'.heap[b]? = w.heap[b]?) (hs : w.heap.size ≤ w'.heap.size) (hk : Keeps E.w0 w' E.ps) :
    SimF E g im fps s a w' :=
  have hi : ∀ t b, im t b → im t b ∧ w'.heap[b]? = w.heap[b]? := fun t b hb => ⟨hb, hw b (h.il t b hb)⟩
  ⟨h.dfr, h.sz, fun t x hx => RA_mono (fun _ _ h => h) hi x _ [] (fun _ h => by cases h) (h.fr t x hx), HR_mono (fun _ _ h => h) hi s.hp fps (fun b hb => hw b (h.lt b hb)) h.hp,
    h.nd, fun b hb => Nat.lt_of_lt_of_le (h.lt b hb) hs, h.ni, h.mine, h.gn, fun i bi b h1 h2 => Nat.lt_of_lt_of_le (h.gl i bi b h1 h2) hs, fun t b hb => Nat.lt_of_lt_of_le (h.il t b hb) hs, hk, h.kn, h.g0, h.i0, h.i1⟩
theorem Keeps.trans_same {w0 w w' : World} {ps : Nat → Prop} (h : Keeps w0 w ps) (h1 : w'.os = w.os) (h2 : w'.tape = w.tape) (h3 : w'.output = w.output) (h4 : w.heap.size ≤ w'.heap.size) (h5 : ∀ b, b < w.heap.size → (w0.heap.size ≤ b ∨ ps b) ∨ w'.heap[b]? = w.heap[b]?) : Keeps w0 w' ps :=
  ⟨h1.trans h.os, h2.trans h.tape, h3.trans h.output, Nat.le_trans h.size h4, fun b hb hp => by
    rcases h5 b (Nat.lt_of_lt_of_le hb h.size) with (h6 | h6) | h6
    · omega
    · exact absurd h6 hp
    · exact h6.trans (h.block b hb hp)⟩
end Go.Proofs.Ythmgfgiaagkdeaa
/- The engine, part c: the table of types; operations that leave the world alone. -/
namespace Go.Proofs.Ythmgfgiaagkdeaa
open Go.RowKit

def AS.eval (s : AS) : Operand → Option AV
  | .tmp t => look t s.fr
  | .const (.int k n) => some (.h (.c (.int k n)))
  | .const (.bool b) => some (.h (.c (.bool b)))
  | .const (.slice none 0 0) => some (.h (.c .nil))
  | .func f => some (.h (.c (.fn f)))
  | _ => none
theorem SimF.eval {E : Env} {g : Ga} {im : Im} {fps : List Nat} {s : AS} {a : Act} {w : World} (h : SimF E g im fps s a w) {o : Operand} {x : AV} (hx : s.eval o = some x) : RA g im w x (a.eval o) [] := by
  unfold AS.eval at hx
  split at hx
  · exact h.fr _ _ hx
  all_goals first | (injection hx with hx; subst hx; simp [RA, RH, R, Act.eval]; done) | cases hx

/-- The objects that a region may read at any time (none: all). -/
def okid (os : Option (List Nat)) (id : Nat) : Bool := match os with | none => true | some l => l.contains id
structure AI (g : Ga) (im : Im) (M : Nat → Prop) (n0 : Nat) (os : Option (List Nat)) (fl : Bool) : Prop where
  imM : ∀ t b, im t b → ¬ M b
  imo : ∀ t b, (fl = true ∨ t ≠ 0) → im t b → b < n0
  old : ∀ id, okid os id = true → ∀ bi b, g id = some bi → bi.a = some b → b < n0 ∧ ¬ M b
def TrM (M : Nat → Prop) (n0 : Nat) (w w' : World) : Prop := ∀ b, b < n0 → ¬ M b → w'.heap[b]? = w.heap[b]?
/-- In every state that is described, the operation yields a value that reads as x, also behind the steps that the region may take besides. -/
def PS (E : Env) (os : Option (List Nat)) (fl : Bool) (s : AS) (op : Op) (x : AV) : Prop :=
  ∀ g im a w M n0, Sim E g im s a w → AI g im M n0 os fl → ∃ v, RA g im w x v [] ∧ ∀ w', TrM M n0 w w' → ∀ o : Oper, o.op = op → (execOp a.eval o).run E.P w' = .ok (.value v) w'

def cmpI : BinOp → Int → Int → Option Bool
  | .eql, a, b => some (a == b)
  | .neq, a, b => some (a != b)
  | .lss, a, b => some (decide (a < b))
  | .leq, a, b => some (decide (a ≤ b))
  | .gtr, a, b => some (decide (b < a))
  | .geq, a, b => some (decide (b ≤ a))
  | _, _, _ => none
def cmpB : BinOp → Bool → Bool → Option Bool
  | .eql, a, b => some (a == b)
  | .neq, a, b => some (!(a == b))
  | _, _, _ => none
def HV.free : HV → Bool
  | .c (.ow ..) => false
  | _ => true
/-- A load of a variable of type x out of these cells. -/
def loadH (x : TInf) (cs : List HV) : Option AV :=
  bif x.d.isAgg then
    (bif Nat.beq (cs.take x.sz).length x.sz && (cs.take x.sz).all HV.free then some (.agg (cs.take x.sz)) else none)
  else match cs with
    | y :: _ => bif y.free then some (.h y) else none
    | [] => none
def nthFld (te : TE) (t j : Nat) : Option Nat :=
  match look t te with
  | some ⟨.struct fs, _, _, _⟩ => (fs[j]?).map (·.1)
  | _ => none
def lenOfH : HV → Option Nat
  | .c (.rd _ n _) | .sl _ _ n | .sw _ _ n => some n
  | .c .nil => some 0
  | _ => none
def aev (te : TE) (os : Option (List Nat)) (fl : Bool) (s : AS) : Op → Option AV
  | .move x | .assign x => s.eval x
  | .pick c a b => match s.eval c with
    | some (.h (.c (.bool true))) => s.eval a
    | some (.h (.c (.bool false))) => s.eval b
    | _ => none
  | .binOp op t x y _ => match s.eval x, s.eval y with
    | some (.h (.c (.int .i64 a))), some (.h (.c (.int .i64 b))) => (cmpI op a b).map fun r => .h (.c (.bool r))
    | some (.h (.c (.bool a))), some (.h (.c (.bool b))) => match look t te with
      | some ⟨.bool, _, _, _⟩ => (cmpB op a b).map fun r => .h (.c (.bool r))
      | _ => none
    | _, _ => none
  | .unOp .not _ x => match s.eval x with
    | some (.h (.c (.bool b))) => some (.h (.c (.bool (!b))))
    | _ => none
  | .fieldAddr t x j => match s.eval x, nthFld te t j with
    | some (.h (.ptr id o)), some d => some (.h (.ptr id (o + d)))
    | some (.h (.rp tg xs)), some d => some (.h (.rp tg (xs.drop d)))
    | _, _ => none
  | .load t x => match s.eval x, look t te with
    | some (.h (.ptr id o)), some inf => match look id s.hp with
      | some (.box _ cs) => bif okid os id then loadH inf (cs.drop o) else none
      | _ => none
    | some (.h (.rp tg xs)), some inf => bif fl || !(Nat.beq tg 0) then loadH inf ((xs.take inf.sz).map HV.c) else none
    | _, _ => none
  | .extract x i => match s.eval x with
    | some (.tup xs) => xs[i]?
    | _ => none
  | .nilCheck x => match s.eval x with
    | some (.h (.ptr id o)) => some (.h (.ptr id o))
    | some (.h (.rp t xs)) => some (.h (.rp t xs))
    | _ => none
  | .call c => match c.callee with
    | .builtin .len => match c.args.toList, c.argTypes.toList with
      | [x], [t] => match s.eval x, look t te with
        | some (.h y), some ⟨.slice _, _, _, _⟩ => (lenOfH y).map fun (n : Nat) => .h (.c (.int .i64 (n : Int)))
        | _, _ => none
      | _, _ => none
    | _ => none
  | _ => none

theorem RA_int {g : Ga} {im : Im} {w : World} {k : IntKind} {n : Int} {v : Value} {fp : List Nat} (h : RA g im w (.h (.c (.int k n))) v fp) : v = .int k n := by
  simp only [RA, RH, R] at h; exact h.1
theorem RA_bool {g : Ga} {im : Im} {w : World} {b : Bool} {v : Value} {fp : List Nat} (h : RA g im w (.h (.c (.bool b))) v fp) : v = .bool b := by
  simp only [RA, RH, R] at h; exact h.1
theorem RA_mkBool {g : Ga} {im : Im} {w : World} (b : Bool) : RA g im w (.h (.c (.bool b))) (.bool b) [] := by simp [RA, RH, R]
theorem RA_mkInt {g : Ga} {im : Im} {w : World} (k : IntKind) (n : Int) : RA g im w (.h (.c (.int k n))) (.int k n) [] := by simp [RA, RH, R]

theorem und_of {P : Program} {te : TE} (h : teOk P te = true) {t : Nat} {d : TI} {sz b' : Nat} {zs : List CV} (hx : look t te = some ⟨d, sz, b', zs⟩) : d.is P (P.underlying t) = true := (teOk_look h hx).und
theorem size_of {P : Program} {te : TE} (h : teOk P te = true) {t : Nat} {inf : TInf} (hx : look t te = some inf) (w : World) : (sizeOf t).run P w = .ok inf.sz w := by
  obtain ⟨⟨i, z, h1, h2, _⟩, _⟩ := teOk_look h hx
  simp [sizeOf, typeInfo, h1, h2]
theorem isAgg_of {P : Program} {te : TE} (h : teOk P te = true) {t : Nat} {inf : TInf} (hx : look t te = some inf) (w : World) : (isAgg t).run P w = .ok inf.d.isAgg w := by
  have hu := (teOk_look h hx).und
  unfold isAgg
  cases hd : inf.d <;> rw [hd] at hu <;> cases hp : P.underlying t with
  | none => simp [TI.is, hp] at hu
  | some d => cases d <;> simp [TI.is, hp] at hu <;> simp [run_underlying hp, TI.isAgg]
theorem addr_add (b o j : Nat) : (⟨b, o, none⟩ : Addr).add j = ⟨b, o + j, none⟩ := by unfold Addr.add; split <;> simp_all

/-- A load of a variable: its cells are known. -/
theorem run_load_cells {P : Program} {te : TE} (h : teOk P te = true) {t : Nat} {inf : TInf} (hx : look t te = some inf) (w : World) (b o : Nat) (us : List Value)
    (hl : us.length = inf.sz) (hc : ∀ j u, us[j]? = some u → w.cell? ⟨b, o + j, none⟩ = some u) :
    (Instr.loadAt t (.pointer (some ⟨b, o, none⟩))).run P w = .ok (if inf.d.isAgg then .agg us.toArray else us.getD 0 undef) w := by
  unfold Instr.loadAt loadVar
  cases ha : inf.d.isAgg with
  | true =>
    simp only [Instr.sureAddr, Sem.run_bind, Sem.run_pure, Result.andThen_ok, isAgg_of h hx, ha, if_true, size_of h hx, ← hl,
      run_loadCells_list (P := P) w ⟨b, o, none⟩ us (fun j v hv => by rw [addr_add]; exact hc j v hv)]
  | false =>
    have hl1 := (teOk_look h hx).one ha
    rw [hl1] at hl
    match us, hl with
    | [u], _ =>
      have := hc 0 u rfl
      simp only [Nat.add_zero] at this
      simp [Instr.sureAddr, isAgg_of h hx, ha, this]

theorem RHs_drop {g : Ga} {im : Im} {w : World} : ∀ (xs : List HV) (vs : List Value) (f : List Nat) (k : Nat), RHs g im w xs vs f → ∃ f', RHs g im w (xs.drop k) (vs.drop k) f'
  | xs, vs, f, 0, h => ⟨f, by simpa using h⟩
  | [], vs, f, k + 1, h => by obtain ⟨rfl, rfl⟩ := h; exact ⟨[], by simp [RHs]⟩
  | x :: xs, vs, f, k + 1, h => by
    obtain ⟨v, vs', f1, f2, rfl, rfl, _, h2⟩ := h
    simpa using RHs_drop xs vs' f2 k h2
theorem RH_free {g : Ga} {im : Im} {w : World} {x : HV} {v : Value} {f : List Nat} (h : RH g im w x v f) (hf : x.free = true) : RH g im w x v [] := by
  cases x with
  | c x => cases x <;> simp_all [RH, R, HV.free]
  | _ => obtain ⟨_, h⟩ := h; exact ⟨rfl, h⟩
theorem RHs_free {g : Ga} {im : Im} {w : World} : ∀ (xs : List HV) (vs : List Value) (f : List Nat), RHs g im w xs vs f → xs.all HV.free = true → RHs g im w xs vs []
  | [], vs, f, h, _ => ⟨h.1, rfl⟩
  | x :: xs, vs, f, h, hf => by
    obtain ⟨v, vs', f1, f2, rfl, rfl, h1, h2⟩ := h
    simp only [List.all_cons, Bool.and_eq_true] at hf
    exact ⟨v, vs', [], [], rfl, rfl, RH_free h1 hf.1, RHs_free xs vs' f2 h2 hf.2⟩
theorem RHs_take {g : Ga} {im : Im} {w : World} : ∀ (xs : List HV) (vs : List Value) (f : List Nat) (k : Nat), RHs g im w xs vs f → ∃ f', RHs g im w (xs.take k) (vs.take k) f'
  | xs, vs, f, 0, h => ⟨[], by simp [RHs]⟩
  | [], vs, f, k + 1, h => by obtain ⟨rfl, rfl⟩ := h; exact ⟨[], by simp [RHs]⟩
  | x :: xs, vs, f, k + 1, h => by
    obtain ⟨v, vs', f1, f2, rfl, rfl, h1, h2⟩ := h
    obtain ⟨f', h3⟩ := RHs_take xs vs' f2 k h2
    exact ⟨f1 ++ f', v, vs'.take k, f1, f', by simp, rfl, h1, h3⟩
theorem RHs_length {g : Ga} {im : Im} {w : World} : ∀ (xs : List HV) (vs : List Value) (f : List Nat), RHs g im w xs vs f → vs.length = xs.length
  | [], vs, f, h => by obtain ⟨rfl, rfl⟩ := h; rfl
  | x :: xs, vs, f, h => by
    obtain ⟨v, vs', f1, f2, rfl, rfl, h1, h2⟩ := h
    simp [RHs_length xs vs' f2 h2]
/-- What a load of these cells hands back. -/
theorem loadH_RA {g : Ga} {im : Im} {w : World} {inf : TInf} (h1 : inf.d.isAgg = false → inf.sz = 1) {cs : List HV} {vs : List Value} {f : List Nat} {x : AV} (h : loadH inf cs = some x) (hr : RHs g im w cs vs f) :
    (vs.take inf.sz).length = inf.sz ∧ RA g im w x (if inf.d.isAgg then .agg (vs.take inf.sz).toArray else (vs.take inf.sz).getD 0 undef) [] := by
  unfold loadH at h
  have hlen := RHs_length _ _ _ hr
  cases ha : inf.d.isAgg with
  | true =>
    rw [ha] at h
    cases hb : (Nat.beq (cs.take inf.sz).length inf.sz && (cs.take inf.sz).all HV.free) with
    | false => rw [hb] at h; simp at h
    | true =>
      rw [hb] at h
      simp only [cond_true, Option.some.injEq] at h
      subst h
      simp only [Bool.and_eq_true] at hb
      have hl : (cs.take inf.sz).length = inf.sz := Nat.eq_of_beq_eq_true hb.1
      obtain ⟨f', hr'⟩ := RHs_take cs vs f inf.sz hr
      have hl' := RHs_length _ _ _ hr'
      refine ⟨by omega, ?_⟩
      simp only [if_true, RA]
      exact ⟨_, rfl, RHs_free _ _ _ hr' hb.2⟩
  | false =>
    rw [ha] at h
    simp only [cond_false] at h
    have hs := h1 ha
    split at h
    · rename_i y ys
      obtain ⟨v, vs', f1, f2, rfl, rfl, h2, _⟩ := hr
      cases hy : y.free with
      | false => rw [hy] at h; simp at h
      | true =>
        rw [hy] at h
        simp only [cond_true, Option.some.injEq] at h
        subst h
        rw [hs]
        exact ⟨by simp, by simpa [RA] using RH_free h2 hy⟩
    · cases h
/-- Cells that are only read, as handles. -/
theorem RL_RHs {g : Ga} {im : Im} {w : World} {b : Nat} : ∀ (xs : List CV) (o : Nat) (f : List Nat), RL im w b xs o f → ∃ us, RHs g im w (xs.map HV.c) us f ∧ ∀ j u, us[j]? = some u → w.cell? ⟨b, o + j, none⟩ = some u
  | [], o, f, h => ⟨[], by simp only [RL] at h; subst h; simp [RHs], by simp⟩
  | x :: xs, o, f, h => by
    simp only [RL] at h
    obtain ⟨u, f1, f2, rfl, h4, h5, h6⟩ := h
    obtain ⟨us, h1, h2⟩ := RL_RHs (g := g) xs (o + 1) f2 h6
    refine ⟨u :: us, ⟨u, us, f1, f2, rfl, rfl, h5, h1⟩, ?_⟩
    intro j v hj
    cases j with
    | zero => simp at hj; subst hj; exact h4
    | succ j => have := h2 j v (by simpa using hj); simpa [Nat.add_assoc, Nat.add_comm 1] using this

theorem look_HR {g : Ga} {im : Im} {w : World} {hp : List (Nat × Ob)} {fps : List Nat} (h : HR g im w hp fps) {id : Nat} {o : Ob} (hl : look id hp = some o) :
    ∃ bi f1 f2 f3, g id = some bi ∧ fps = f1 ++ (f2 ++ f3) ∧ RO g im w bi o f2 := by
  obtain ⟨l1, l2, rfl, _⟩ := look_split hl
  obtain ⟨f1, f2, rfl, _, h2⟩ := (HR_append _ _ _).1 h
  obtain ⟨bi, f3, f4, h3, rfl, h5, h6⟩ := h2
  exact ⟨bi, f1, f3, f4, h3, rfl, h5⟩

theorem struct_of {P : Program} {te : TE} (h : teOk P te = true) {t j d : Nat} (hx : nthFld te t j = some d) (w : World) (b o : Nat) : (Instr.fieldAt t (.pointer (some ⟨b, o, none⟩)) j).run P w = .ok (.pointer (some ⟨b, o + d, none⟩)) w := by
  unfold nthFld at hx
  split at hx
  · rename_i fs sz by' zs hl
    have hu := (teOk_look h hl).und
    cases hp : P.underlying t with
    | none => simp [TI.is, hp] at hu
    | some de =>
      cases de <;> simp [TI.is, hp] at hu
      rename_i fields
      obtain ⟨hu1, hu2⟩ := hu
      subst hu1
      simp only [List.getElem?_map, Option.map_map, Option.map_eq_some_iff, Array.getElem?_toList] at hx
      obtain ⟨f, hf, hd⟩ := hx
      obtain ⟨hj, hf'⟩ := Array.getElem?_eq_some_iff.1 hf
      have := hu2 j hj
      rw [hf'] at this
      split at this
      · rename_i i hi
        have hne : i.size ≠ 0 := by simpa using this
        simp only [Function.comp] at hd
        unfold Instr.fieldAt
        simp [run_underlying hp, hf, Instr.sureAddr, fieldPlace, sizeOf, typeInfo, hi, hne, addr_add, hd]
      · cases this
  · cases hx
theorem cmpI_run {P : Program} {op : BinOp} {a b : Int} {r : Bool} (h : cmpI op a b = some r) (t : TypeId) (x y : Operand) (w : World) :
    (do eqGuard op t x y (.int .i64 a) (.int .i64 b); binOp op t (.int .i64 a) (.int .i64 b) : Sem Value).run P w = .ok (.bool r) w := by
  cases op <;> simp [cmpI] at h <;> subst h <;> simp [eqGuard, binOp, Op.intCmp]
theorem cmpB_run {P : Program} {op : BinOp} {a b : Bool} {r : Bool} (h : cmpB op a b = some r) (t : TypeId) (ht : P.underlying t = some .bool) (x y : Operand) (w : World) :
    (do eqGuard op t x y (.bool a) (.bool b); binOp op t (.bool a) (.bool b) : Sem Value).run P w = .ok (.bool r) w := by
  cases op <;> simp only [cmpB, reduceCtorEq, Option.some.injEq] at h
  · subst h; simp [eqGuard, run_eql_bool w t a b ht]
  · subst h; simp [eqGuard, run_neq_bool w t a b ht]
theorem lenOf_run {P : Program} {te : TE} (hte : teOk P te = true) {t e sz b' : Nat} {zs : List CV} (ht : look t te = some ⟨.slice e, sz, b', zs⟩) {g : Ga} {im : Im} {w : World} {y : HV} {n : Nat} (hy : lenOfH y = some n) {v : Value} {f : List Nat} (hv : RH g im w y v f) (ty : TypeId) (w' : World) :
    (Builtin.len_ #[t] ty #[v]).run P w' = .ok (.int .i64 n) w' := by
  have hu := und_of hte ht
  cases hp : P.underlying t with
  | none => simp [TI.is, hp] at hu
  | some de =>
    cases de <;> simp [TI.is, hp] at hu
    subst hu
    have key : ∀ A m c, m = n → (Builtin.len_ #[t] ty #[.slice A m c]).run P w' = .ok (.int .i64 n) w' := by
      rintro A m c rfl
      simp [Builtin.len_, run_underlying hp, goInt]
    unfold lenOfH at hy
    split at hy
    · injection hy with hy; subst hy
      simp only [RH, R] at hv
      obtain ⟨_, A, c, rfl, _⟩ := hv
      exact key _ _ _ rfl
    · injection hy with hy; subst hy
      obtain ⟨_, bi, _, _, _, rfl⟩ := hv
      exact key _ _ _ rfl
    · injection hy with hy; subst hy
      obtain ⟨_, bi, A, c, _, rfl, _⟩ := hv
      exact key _ _ _ rfl
    · injection hy with hy; subst hy
      simp only [RH, R] at hv
      rw [hv.1]
      exact key _ _ _ rfl
    · cases hy

theorem ps_of_aev {E : Env} {te : TE} (hte : teOk E.P te = true) {os : Option (List Nat)} {fl : Bool} {s : AS} {op : Op} {x : AV} (h : aev te os fl s op = some x) : PS E os fl s op x := by
  intro g im a w M n0 ⟨fps, hs⟩ hI
  unfold aev at h
  split at h
  · -- move
    refine ⟨_, hs.eval h, fun w' _ o ho => by simp [execOp, ho]⟩
  · refine ⟨_, hs.eval h, fun w' _ o ho => by simp [execOp, ho]⟩
  · -- pick
    split at h
    · rename_i hc
      have e := RA_bool (hs.eval hc)
      exact ⟨_, hs.eval h, fun w' _ o ho => by simp [execOp, ho, e, asBool]⟩
    · rename_i hc
      have e := RA_bool (hs.eval hc)
      exact ⟨_, hs.eval h, fun w' _ o ho => by simp [execOp, ho, e, asBool]⟩
    · cases h
  · -- binOp
    split at h
    · rename_i ha hb
      have e1 := RA_int (hs.eval ha)
      have e2 := RA_int (hs.eval hb)
      simp only [Option.map_eq_some_iff] at h
      obtain ⟨r, hr, rfl⟩ := h
      refine ⟨_, RA_mkBool r, fun w' _ o ho => ?_⟩
      have := cmpI_run (P := E.P) hr (w := w')
      simp only [execOp, ho, e1, e2, Sem.run_bind, this, Result.andThen_ok, Sem.run_pure]
    · rename_i ha hb
      have e1 := RA_bool (hs.eval ha)
      have e2 := RA_bool (hs.eval hb)
      split at h
      · rename_i hl
        simp only [Option.map_eq_some_iff] at h
        obtain ⟨r, hr, rfl⟩ := h
        have hu := und_of hte hl
        refine ⟨_, RA_mkBool r, fun w' _ o ho => ?_⟩
        have hp : ∀ d : Option TypeDesc, TI.is E.P .bool d = true → d = some .bool := fun d hd => by
          cases d with
          | none => simp [TI.is] at hd
          | some d => cases d <;> simp [TI.is] at hd ⊢
        have := cmpB_run (P := E.P) hr (w := w') _ (hp _ hu)
        simp only [execOp, ho, e1, e2, Sem.run_bind, this, Result.andThen_ok, Sem.run_pure]
      · cases h
    · cases h
  · -- not
    split at h
    · rename_i hb
      have e := RA_bool (hs.eval hb)
      injection h with h; subst h
      exact ⟨_, RA_mkBool _, fun w' _ o ho => by simp [execOp, ho, e, Op.unary]⟩
    · cases h
  · -- fieldAddr
    split at h
    · rename_i hx hd
      injection h with h; subst h
      have hv := hs.eval hx
      simp only [RA, RH] at hv
      obtain ⟨_, bi, b, hg, hb, e⟩ := hv
      refine ⟨_, ⟨rfl, bi, b, hg, hb, rfl⟩, fun w' _ o ho => ?_⟩
      simp only [execOp, ho, e, Sem.run_bind, struct_of hte hd, Result.andThen_ok, Sem.run_pure]
    · rename_i tg xs d hx hd
      injection h with h; subst h
      have hv := hs.eval hx
      simp only [RA, RH] at hv
      obtain ⟨_, b, o', e, him, hr⟩ := hv
      obtain ⟨f', hf', hr'⟩ := RL_drop _ d _ _ hr
      refine ⟨_, ⟨rfl, b, _, rfl, him, RL_nofp hr' hf'⟩, fun w' _ o ho => ?_⟩
      simp only [execOp, ho, e, Sem.run_bind, struct_of hte hd, Result.andThen_ok, Sem.run_pure]
    · cases h
  · -- load
    split at h
    · rename_i t x0 id o inf hx hl
      split at h
      · rename_i ty cs hb
        cases hc : okid os id with
        | false => rw [hc] at h; simp at h
        | true =>
          rw [hc] at h
          simp only [cond_true] at h
          have hv := hs.eval hx
          simp only [RA, RH] at hv
          obtain ⟨_, bi, b, hg, hba, e⟩ := hv
          obtain ⟨bi', f1, f2, f3, hg', hf, hro⟩ := look_HR hs.hp hb
          obtain rfl : bi = bi' := by rw [hg] at hg'; exact Option.some.inj hg'
          obtain ⟨b', vs, f, hb', hf2, hh, hr⟩ := hro
          obtain rfl : b = b' := by rw [hba] at hb'; exact Option.some.inj hb'
          obtain ⟨f', hr'⟩ := RHs_drop cs vs f o hr
          obtain ⟨h1, h2⟩ := loadH_RA (teOk_look hte hl).one h hr'
          refine ⟨_, h2, fun w' hw' o' ho => ?_⟩
          have hsame := hw' b (hI.old id hc bi b hg hba).1 (hI.old id hc bi b hg hba).2
          have hrun := run_load_cells (P := E.P) hte hl w' b o ((vs.drop o).take inf.sz) h1 (fun j u hu => by
            rw [cell_of_same hsame, cell_of_row w b (o + j) vs.toArray ty (0, 0) hh]
            rw [List.getElem?_take] at hu
            split at hu
            · rw [List.getElem?_drop] at hu
              simpa using hu
            · cases hu)
          simp only [execOp, ho, e, Sem.run_bind, hrun, Result.andThen_ok, Sem.run_pure]
      · cases h
    · rename_i t x0 tg xs inf hx hl
      cases hfl : (fl || !(Nat.beq tg 0)) with
      | false => rw [hfl] at h; simp at h
      | true =>
        rw [hfl] at h
        simp only [cond_true] at h
        have hfl' : fl = true ∨ tg ≠ 0 := by
          simp only [Bool.or_eq_true, Bool.not_eq_true'] at hfl
          rcases hfl with h | h
          · exact .inl h
          · right; rintro rfl; cases h
        have hv := hs.eval hx
        simp only [RA, RH] at hv
        obtain ⟨_, b, o, e, him, hr⟩ := hv
        obtain ⟨f1, hf1, hr1⟩ := RL_take xs inf.sz o [] hr
        obtain ⟨us, hus, hcell⟩ := RL_RHs (g := g) _ _ _ hr1
        obtain ⟨h1, h2⟩ := loadH_RA (teOk_look hte hl).one h hus
        refine ⟨_, h2, fun w' hw' o' ho => ?_⟩
        have hsame := hw' b (hI.imo tg b hfl' him) (hI.imM tg b him)
        have hrun := run_load_cells (P := E.P) hte hl w' b o (us.take inf.sz) h1 (fun j u hu => by
          rw [cell_of_same hsame]
          rw [List.getElem?_take] at hu
          split at hu
          · exact hcell j u hu
          · cases hu)
        simp only [execOp, ho, e, Sem.run_bind, hrun, Result.andThen_ok, Sem.run_pure]
    · cases h
  · -- extract
    split at h
    · rename_i hx
      have hv := hs.eval hx
      simp only [RA] at hv
      obtain ⟨vs, e, hr⟩ := hv
      have key : ∀ (xs : List AV) (vs : List Value) (i : Nat) (y : AV), xs[i]? = some y → RAs g im w xs vs [] → ∃ v, vs[i]? = some v ∧ RA g im w y v [] := by
        intro xs
        induction xs with
        | nil => intro vs i y hi _; simp at hi
        | cons z zs ih =>
          intro vs i y hi hr
          simp only [RAs] at hr
          obtain ⟨v, vs', f1, f2, rfl, hf, h1, h2⟩ := hr
          obtain ⟨rfl, rfl⟩ := List.append_eq_nil_iff.1 hf.symm
          cases i with
          | zero => simp at hi; subst hi; exact ⟨v, rfl, h1⟩
          | succ i => simpa using ih vs' i y (by simpa using hi) h2
      obtain ⟨v, hvi, hv⟩ := key _ _ _ _ h hr
      exact ⟨v, hv, fun w' _ o ho => by simp [execOp, ho, e, Instr.extract, hvi]⟩
    · cases h
  · -- nilCheck
    split at h
    · rename_i hx
      injection h with h; subst h
      have hv := hs.eval hx
      have hv' := hv
      simp only [RA, RH] at hv
      obtain ⟨_, bi, b, hg, hb, e⟩ := hv
      exact ⟨_, hv', fun w' _ o ho => by simp [execOp, ho, e]⟩
    · rename_i hx
      injection h with h; subst h
      have hv := hs.eval hx
      have hv' := hv
      simp only [RA, RH] at hv
      obtain ⟨_, b, o', e, him, hr⟩ := hv
      exact ⟨_, hv', fun w' _ o ho => by simp [execOp, ho, e]⟩
    · cases h
  · -- len
    split at h
    · rename_i hc
      split at h
      · rename_i hargs htys
        split at h
        · rename_i hx hl
          simp only [Option.map_eq_some_iff] at h
          obtain ⟨n, hn, rfl⟩ := h
          have hv := hs.eval hx
          simp only [RA] at hv
          refine ⟨_, RA_mkInt _ _, fun w' _ o ho => ?_⟩
          have := lenOf_run (P := E.P) hte hl hn hv o.type w'
          have ha : ∀ {α : Type} {l : Array α} {l' : List α}, l.toList = l' → l = l'.toArray := fun h => by rw [← h]
          simp only [execOp, ho, resolve, hc, ha hargs, ha htys, invoke, builtin, Sem.run_bind, Sem.run_pure, Result.andThen_ok, List.map_toArray, List.map_cons, List.map_nil, this]
        · cases h
      · cases h
    · cases h
  · cases h
end Go.Proofs.Ythmgfgiaagkdeaa
/- The engine, part d: lists of operations, code, loops, forgetting and renaming. -/
namespace Go.Proofs.Ythmgfgiaagkdeaa
open Go.RowKit

def sg (r : List (Nat × Nat)) (nx : Nat) (j : Nat) : Nat := match look j r with | some i => i | none => nx + j
def HV.ren (f : Nat → Nat) : HV → HV
  | .c x => .c x
  | .sl id i n => .sl (f id) i n
  | .sw id i n => .sw (f id) i n
  | .ptr id o => .ptr (f id) o
  | .rp t xs => .rp t xs
def HV.rens (f : Nat → Nat) : List HV → List HV
  | [] => []
  | x :: xs => x.ren f :: HV.rens f xs
mutual
def AV.ren (f : Nat → Nat) : AV → AV
  | .h x => .h (x.ren f)
  | .agg xs => .agg (HV.rens f xs)
  | .tup xs => .tup (AV.rens f xs)
  | .top => .top
def AV.rens (f : Nat → Nat) : List AV → List AV
  | [] => []
  | x :: xs => x.ren f :: AV.rens f xs
end
def Ob.ren (f : Nat → Nat) : Ob → Ob
  | .arr ty e xs => .arr ty e xs
  | .box ty xs => .box ty (HV.rens f xs)
  | .hrr ty e xs => .hrr ty e (HV.rens f xs)
section
variable {g : Ga} {im : Im} {w : World} {f : Nat → Nat}
theorem RH_ren {x : HV} {v : Value} {fp : List Nat} (h : RH g im w (x.ren f) v fp) : RH (fun j => g (f j)) im w x v fp := by
  cases x <;> exact h
theorem RHs_ren : ∀ (xs : List HV) (vs : List Value) (fp : List Nat), RHs g im w (HV.rens f xs) vs fp → RHs (fun j => g (f j)) im w xs vs fp
  | [], vs, fp, h => h
  | x :: xs, vs, fp, h => by
    obtain ⟨v, vs', f1, f2, rfl, rfl, h1, h2⟩ := h
    exact ⟨v, vs', f1, f2, rfl, rfl, RH_ren h1, RHs_ren xs vs' f2 h2⟩
mutual
theorem RA_ren : ∀ (x : AV) (v : Value) (fp : List Nat), RA g im w (x.ren f) v fp → RA (fun j => g (f j)) im w x v fp
  | .h x, v, fp, h => by simp only [RA, AV.ren] at h ⊢; exact RH_ren h
  | .agg xs, v, fp, h => by
    simp only [RA, AV.ren] at h ⊢
    obtain ⟨cs, h1, h2⟩ := h
    exact ⟨cs, h1, RHs_ren xs cs fp h2⟩
  | .tup xs, v, fp, h => by
    simp only [RA, AV.ren] at h ⊢
    obtain ⟨cs, h1, h2⟩ := h
    exact ⟨cs, h1, RAs_ren xs cs fp h2⟩
  | .top, v, fp, h => by simpa only [RA, AV.ren] using h
theorem RAs_ren : ∀ (xs : List AV) (vs : List Value) (fp : List Nat), RAs g im w (AV.rens f xs) vs fp → RAs (fun j => g (f j)) im w xs vs fp
  | [], vs, fp, h => by simpa only [RAs, AV.rens] using h
  | x :: xs, vs, fp, h => by
    simp only [RAs, AV.rens] at h ⊢
    obtain ⟨v, vs', f1, f2, rfl, rfl, h1, h2⟩ := h
    exact ⟨v, vs', f1, f2, rfl, rfl, RA_ren x v f1 h1, RAs_ren xs vs' f2 h2⟩
end
theorem RO_ren {bi : BI} {o : Ob} {fp : List Nat} (h : RO g im w bi (o.ren f) fp) : RO (fun j => g (f j)) im w bi o fp := by
  cases o with
  | arr ty e xs => exact h
  | box ty xs =>
    obtain ⟨b, cs, f', h4, rfl, h6, h8⟩ := h
    exact ⟨b, cs, f', h4, rfl, h6, RHs_ren xs cs f' h8⟩
  | hrr ty e xs =>
    obtain ⟨h1, h2, h3 | ⟨b, cur, f', us, h4, rfl, h6, h7, h8, h9⟩⟩ := h
    · obtain ⟨q1, q2, q3, q4⟩ := h3
      refine ⟨h1, h2, .inl ⟨q1, ?_, q3, q4⟩⟩
      cases xs with
      | nil => rfl
      | cons x xs => cases q2
    · exact ⟨h1, h2, .inr ⟨b, cur, f', us, h4, rfl, h6, h7, RHs_ren xs us f' h8, h9⟩⟩
end
def LeF (f : Nat → Nat) (fr : List (Nat × AV)) : List (Nat × AV) → Prop
  | [] => True
  | (t, x) :: r => look t fr = some (x.ren f) ∧ LeF f fr r
def LeH (f : Nat → Nat) : List (Nat × Ob) → List (Nat × Ob) → Prop
  | [], _ => True
  | (j, o) :: r, hp => look (f j) hp = some (o.ren f) ∧ LeH f r (del (f j) hp)
/-- The objects that were handed over keep their names. -/
def fixk (r : List (Nat × Nat)) : Nat → Bool
  | 0 => true
  | k + 1 => (match look k r with | some i => Nat.beq i k | none => false) && fixk r k
theorem fixk_sg {r : List (Nat × Nat)} {nx : Nat} : ∀ {k : Nat}, fixk r k = true → ∀ j, j < k → sg r nx j = j
  | 0, _, j, hj => absurd hj (by omega)
  | k + 1, h, j, hj => by
    simp only [fixk, Bool.and_eq_true] at h
    by_cases hjk : j = k
    · subst hjk
      unfold sg
      have h1 := h.1
      cases hl : look j r with
      | none => rw [hl] at h1; simp at h1
      | some i => rw [hl] at h1; exact Nat.eq_of_beq_eq_true h1
    · exact fixk_sg h.2 j (by omega)
/-- State s holds all that state s' says, an object of s' being the one of s that r names. -/
structure Le (k : Nat) (r : List (Nat × Nat)) (s s' : AS) : Prop where
  ks : r.all (fun p => Nat.blt p.1 s'.nx) = true
  kk : fixk r k = true
  kn : Nat.ble k s'.nx = true
  fr : LeF (sg r s.nx) s.fr s'.fr
  hp : LeH (sg r s.nx) s'.hp s.hp
theorem LeF_look {f : Nat → Nat} {fr : List (Nat × AV)} : ∀ {l : List (Nat × AV)}, LeF f fr l → ∀ t x, look t l = some x → look t fr = some (x.ren f)
  | [], _, t, x, h => by simp [look] at h
  | (s, y) :: r, ⟨h1, h2⟩, t, x, h => by
    by_cases ht : t = s
    · subst ht
      rw [look_cons_eq] at h
      injection h with h; subst h
      exact h1
    · rw [look_cons_ne ht] at h
      exact LeF_look h2 t x h
theorem HR_del {g : Ga} {im : Im} {w : World} {hp : List (Nat × Ob)} {fps : List Nat} (h : HR g im w hp fps) {id : Nat} {o : Ob} (hl : look id hp = some o) :
    ∃ bi f1 f2 f3, g id = some bi ∧ fps = f1 ++ (f2 ++ f3) ∧ RO g im w bi o f2 ∧ HR g im w (del id hp) (f1 ++ f3) := by
  obtain ⟨l1, l2, rfl, _, hd⟩ := look_split hl
  obtain ⟨f1, f2, rfl, ha, h2⟩ := (HR_append _ _ _).1 h
  obtain ⟨bi, f3, f4, h3, rfl, h5, h6⟩ := h2
  refine ⟨bi, f1, f3, f4, h3, rfl, h5, ?_⟩
  rw [hd]
  exact (HR_append _ _ _).2 ⟨f1, f4, rfl, ha, h6⟩
theorem LeH_HR {g : Ga} {im : Im} {w : World} {f : Nat → Nat} : ∀ (l hp : List (Nat × Ob)) (fps : List Nat), HR g im w hp fps → LeH f l hp → fps.Nodup → ∃ fps', HR (fun j => g (f j)) im w l fps' ∧ fps'.Nodup ∧ ∀ b ∈ fps', b ∈ fps
  | [], hp, fps, _, _, _ => ⟨[], rfl, List.nodup_nil, by simp⟩
  | (j, o) :: r, hp, fps, h, ⟨h1, h2⟩, hn => by
    obtain ⟨bi, f1, f2, f3, hg, rfl, hro, hd⟩ := HR_del h h1
    have hn' : (f1 ++ f3).Nodup := hn.sublist (List.Sublist.append (List.Sublist.refl _) (List.sublist_append_right _ _))
    obtain ⟨fps', h4, h5, h6⟩ := LeH_HR r _ _ hd h2 hn'
    refine ⟨f2 ++ fps', ⟨bi, f2, fps', hg, rfl, RO_ren hro, h4⟩, ?_, ?_⟩
    · rw [List.nodup_append] at hn ⊢
      obtain ⟨n1, n2, n3⟩ := hn
      rw [List.nodup_append] at n2
      refine ⟨n2.1, h5, fun a ha b hb => ?_⟩
      have := h6 b hb
      rcases List.mem_append.1 this with hb1 | hb3
      · exact (n3 b hb1 a (List.mem_append_left _ ha)).symm
      · exact n2.2.2 a ha b hb3
    · intro b hb
      rcases List.mem_append.1 hb with hb | hb
      · exact List.mem_append_right _ (List.mem_append_left _ hb)
      · rcases List.mem_append.1 (h6 b hb) with hb | hb
        · exact List.mem_append_left _ hb
        · exact List.mem_append_right _ (List.mem_append_right _ hb)
theorem Le.sim {E : Env} {r : List (Nat × Nat)} {s s' : AS} (h : Le E.k r s s') {g : Ga} {im : Im} {a : Act} {w : World} (hs : Sim E g im s a w) : Sim E (fun j => g (sg r s.nx j)) im s' a w := by
  obtain ⟨fps, hs⟩ := hs
  obtain ⟨fps', h1, h2, h3⟩ := LeH_HR _ _ _ hs.hp h.hp hs.nd
  refine ⟨fps', hs.dfr, hs.sz, ?_, h1, h2, fun b hb => hs.lt b (h3 b hb), fun b hb => hs.ni b (h3 b hb), fun b hb => hs.mine b (h3 b hb), ?_, fun i bi b h1 h2 => hs.gl _ bi b h1 h2, hs.il, hs.kp, Nat.le_of_ble_eq_true h.kn, ?_, hs.i0, hs.i1⟩
  · intro t x hx
    exact RA_ren x _ [] (hs.fr t _ (LeF_look h.fr t x hx))
  · intro j hj
    apply hs.gn
    unfold sg
    cases hl : look j r with
    | none => simp
    | some i =>
      exfalso
      obtain ⟨l1, l2, hl, _⟩ := look_split hl
      have := List.all_eq_true.1 h.ks (j, i) (by rw [hl]; simp)
      have : j < s'.nx := Nat.lt_of_succ_le (Nat.le_of_ble_eq_true this)
      omega
  · intro i hi
    show g (sg r s.nx i) = _
    rw [fixk_sg h.kk i hi]
    exact hs.g0 i hi

def Lift (E : Env) (Q : Exit → AS → Prop) : Exit → Act → World → Prop := fun e a w => ∃ g im s, Sim E g im s a w ∧ Q e s
def AWP (E : Env) (c : Code) (s : AS) (Q : Exit → AS → Prop) : Prop := ∀ g im a w, Sim E g im s a w → c.wp E.P (Lift E Q) a w
def AL (E : Env) (l : List Oper) (rest : List Oper) (s : AS) (Q : Exit → AS → Prop) : Prop := ∀ g im a w, Sim E g im s a w → wpList E.P l.toArray (Lift E Q) rest a w

/-- What an effect does to the ground: F says which old blocks may have been written. -/
structure Chg (g g' : Ga) (im im' : Im) (w w' : World) (nx : Nat) (F : Nat → Prop) : Prop where
  gx : ∀ i, i < nx → g' i = g i
  gn : ∀ i bi b, nx ≤ i → g' i = some bi → bi.a = some b → w.heap.size ≤ b ∨ F b
  imm : ∀ t b, im t b → im' t b
  imn : ∀ t b, im' t b → im t b ∨ (t = 0 ∧ w.heap.size ≤ b)
  sz : w.heap.size ≤ w'.heap.size
  fi : ∀ b, F b → ∀ t, ¬ im t b
  ch : ∀ b, b < w.heap.size → F b ∨ w'.heap[b]? = w.heap[b]?
theorem Chg.refl (g : Ga) (im : Im) (w : World) {nx : Nat} (h : ∀ i, nx ≤ i → g i = none) : Chg g g im im w w nx (fun _ => False) :=
  ⟨fun _ _ => rfl, fun i bi b hi hg => (by rw [h i hi] at hg; cases hg), fun _ _ h => h, fun _ _ h => .inl h, Nat.le_refl _, fun _ h => h.elim, fun _ _ => .inr rfl⟩
/-- F is made of the blocks of these objects. -/
def Of (g : Ga) (md : List Nat) (F : Nat → Prop) : Prop := ∀ b, F b → ∃ id ∈ md, ∃ bi, g id = some bi ∧ bi.a = some b
/-- An operation's effect: whatever it comes to is described, and meets Q; it may have written the objects md (some: these alone). -/
def ES (E : Env) (s : AS) (o : Oper) (md : Option (List Nat)) (Q : AS → Prop) : Prop :=
  ∀ g im a w (K : Act → World → Prop) (QQ : Exit → Act → World → Prop), Sim E g im s a w →
    (∀ g' im' s' a' w' F, Sim E g' im' s' a' w' → Q s' → Chg g g' im im' w w' s.nx F → (∀ m, md = some m → Of g m F) → K a' w') → o.wp E.P a w K QQ

/-- The slot is one of the frame. -/
def dok (nt : Nat) : Option Nat → Bool
  | none => true
  | some d => Nat.blt d nt
theorem dok_lt {nt : Nat} {d : Option Nat} (h : dok nt d = true) : ∀ k, d = some k → k < nt := by
  rintro k rfl
  exact Nat.lt_of_succ_le (Nat.le_of_ble_eq_true h)
theorem AI_none {E : Env} {g : Ga} {im : Im} {fps : List Nat} {s : AS} {a : Act} {w : World} (h : SimF E g im fps s a w) (os : Option (List Nat)) : AI g im (fun _ => False) w.heap.size os true :=
  ⟨fun _ _ _ h => h, fun t b _ => h.il t b, fun id _ bi b h1 h2 => ⟨h.gl id bi b h1 h2, fun h => h⟩⟩
theorem es_of_ps {E : Env} {s : AS} {o : Oper} {x : AV} {os : Option (List Nat)} {Q : AS → Prop} (h : PS E os true s o.op x) (hd : dok E.nt o.dst = true) (hQ : Q (s.putd o.dst x)) : ES E s o (some []) Q := by
  intro g im a w K QQ hs hK
  obtain ⟨fps, hs'⟩ := hs
  obtain ⟨v, hv, hrun⟩ := h g im a w (fun _ => False) w.heap.size ⟨fps, hs'⟩ (AI_none hs' os)
  have := hrun w (fun _ _ _ => rfl) o rfl
  unfold Oper.wp
  rw [this]
  exact hK g im _ _ w _ ⟨fps, hs'.putd (dok_lt hd) hv⟩ hQ (Chg.refl g im w hs'.gn) fun _ _ _ h => h.elim

def nth {α : Type} : List α → Nat → Option α
  | [], _ => none
  | x :: _, 0 => some x
  | _ :: xs, k + 1 => nth xs k
theorem nth_eq {α : Type} : ∀ (l : List α) (k : Nat), nth l k = l[k]?
  | [], k => by simp [nth]
  | x :: xs, 0 => by simp [nth]
  | x :: xs, k + 1 => by simp [nth, nth_eq xs k]
/-- Whose slot the operation's guard asks, and what it wants. -/
def gslot (l : List Oper) (o : Oper) : Option (Option Nat × Bool) := match o.guard with
  | none => none
  | some (j, want) => some ((nth l j).bind (·.dst), want)
/-- Is the operation carried out? (none: not known) -/
def gdv (l : List Oper) (s : AS) (o : Oper) : Option Bool := match gslot l o with
  | none => some true
  | some (some d, want) => match look d s.fr with
    | some (.h (.c (.bool true))) => some want
    | some (.h (.c (.bool false))) => some (!want)
    | some (.tup []) => some false
    | _ => none
  | some (none, _) => none
theorem wanted_of {E : Env} {g : Ga} {im : Im} {fps : List Nat} {s : AS} {a : Act} {w : World} (h : SimF E g im fps s a w) {l : List Oper} {o : Oper} {r : Bool} (hg : gdv l s o = some r) : Region.wanted o (yielded l.toArray a.tmps) = r := by
  unfold gdv gslot at hg
  unfold Region.wanted
  cases ho : o.guard with
  | none => rw [ho] at hg; simpa using hg
  | some p =>
    obtain ⟨j, want⟩ := p
    rw [ho] at hg
    simp only at hg ⊢
    have key : ∀ d b, (nth l j).bind (·.dst) = some d → look d s.fr = some (.h (.c (.bool b))) → yielded l.toArray a.tmps j = some b := by
      intro d b hd hb
      have e := RA_bool (h.fr _ _ hb)
      unfold yielded
      have : (l.toArray[j]?).bind (·.dst) = some d := by rw [List.getElem?_toArray, ← nth_eq]; exact hd
      rw [this]
      have ht : a.tmps[d]? = some (.bool b) := by
        rw [Array.getD_eq_getD_getElem?] at e
        cases hh : a.tmps[d]? with
        | none => rw [hh] at e; simp [undef] at e
        | some v => rw [hh] at e; simp at e; rw [e]
      simp [ht]
    cases hd : (nth l j).bind (·.dst) with
    | none => rw [hd] at hg; simp at hg
    | some d =>
      rw [hd] at hg
      simp only at hg
      split at hg
      · rename_i hb
        rw [key d true hd hb]
        injection hg with hg; subst hg
        cases want <;> rfl
      · rename_i hb
        rw [key d false hd hb]
        injection hg with hg; subst hg
        cases want <;> rfl
      · rename_i hb
        have e := h.fr _ _ hb
        simp only [RA] at e
        obtain ⟨vs, e, e2⟩ := e
        simp only [RAs] at e2
        rw [e2.1] at e
        have hy : yielded l.toArray a.tmps j = none := by
          unfold yielded
          have : (l.toArray[j]?).bind (·.dst) = some d := by rw [List.getElem?_toArray, ← nth_eq]; exact hd
          rw [this]
          rw [Array.getD_eq_getD_getElem?] at e
          cases hh : a.tmps[d]? with
          | none => simp [hh]
          | some v => rw [hh] at e; simp at e; subst e; simp [hh]
        rw [hy]
        cases hg
        rfl
      · cases hg
theorem al_nil {E : Env} {l : List Oper} {s : AS} {Q : Exit → AS → Prop} (h : Q .normal s) : AL E l [] s Q := fun g im _ _ hs => ⟨g, im, s, hs, h⟩
theorem al_e {E : Env} {l rest : List Oper} {s : AS} {o : Oper} {md : Option (List Nat)} {Q : Exit → AS → Prop} {Q' : AS → Prop} (hg : gdv l s o = some true) (h : ES E s o md Q') (k : ∀ s', Q' s' → AL E l rest s' Q) : AL E l (o :: rest) s Q := by
  intro g im a w hs
  obtain ⟨fps, hs'⟩ := hs
  unfold wpList
  rw [if_pos (wanted_of hs' hg)]
  exact .inl (h g im a w _ _ ⟨fps, hs'⟩ fun g' im' s' a' w' _ h1 h2 _ _ => k s' h2 g' im' a' w' h1)
theorem al_ps {E : Env} {l rest : List Oper} {s : AS} {o : Oper} {x : AV} {Q : Exit → AS → Prop} (h : PS E none true s o.op x) (hg : gdv l s o = some true) (hd : dok E.nt o.dst = true)
    (k : AL E l rest (s.putd o.dst x) Q) : AL E l (o :: rest) s Q :=
  al_e (Q' := fun s' => s' = s.putd o.dst x) hg (es_of_ps h hd rfl) fun s' h => by rw [h]; exact k
/-- .. an effect that comes to one state. -/
theorem al_es {E : Env} {l rest : List Oper} {s s' : AS} {o : Oper} {md : Option (List Nat)} {Q : Exit → AS → Prop} (h : ES E s o md (fun x => x = s')) (hg : gdv l s o = some true) (k : AL E l rest s' Q) : AL E l (o :: rest) s Q :=
  al_e hg h fun x h => by rw [h]; exact k
theorem al_skip {E : Env} {l rest : List Oper} {s : AS} {o : Oper} {Q : Exit → AS → Prop} (hg : gdv l s o = some false) (hd : dok E.nt o.dst = true) (k : AL E l rest (s.putd o.dst (.tup [])) Q) : AL E l (o :: rest) s Q := by
  intro g im a w hs
  obtain ⟨fps, hs'⟩ := hs
  unfold wpList
  rw [if_neg (by rw [wanted_of hs' hg]; simp)]
  exact k g im _ w ⟨fps, hs'.putd (dok_lt hd) (by simp only [RA]; exact ⟨[], rfl, by simp [RAs]⟩)⟩
theorem put_same {E : Env} {g : Ga} {im : Im} {fps : List Nat} {s : AS} {a : Act} {w : World} (h : SimF E g im fps s a w) {d : Nat} {b : Bool} (hb : look d s.fr = some (.h (.c (.bool b)))) : SimF E g im fps (s.put d (.h (.c (.bool b)))) a w := by
  refine ⟨h.dfr, h.sz, ?_, h.hp, h.nd, h.lt, h.ni, h.mine, h.gn, h.gl, h.il, h.kp, h.kn, h.g0, h.i0, h.i1⟩
  intro t y hy
  by_cases ht : t = d
  · subst ht
    simp only [AS.put, look_cons_eq, Option.some.injEq] at hy
    subst hy
    exact h.fr t _ hb
  · simp only [AS.put, look_cons_ne ht] at hy
    exact h.fr t y hy
/-- A guard that is not known: both cases. -/
theorem al_split {E : Env} {l rest : List Oper} {s : AS} {Q : Exit → AS → Prop} (d : Nat) {b : Bool} (hb : look d s.fr = some (.h (.c (.bool b))))
    (kt : b = true → AL E l rest (s.put d (.h (.c (.bool true)))) Q) (kf : b = false → AL E l rest (s.put d (.h (.c (.bool false)))) Q) : AL E l rest s Q := by
  intro g im a w ⟨fps, hs⟩
  have := put_same hs hb
  cases b with
  | true => exact kt rfl g im a w ⟨fps, this⟩
  | false => exact kf rfl g im a w ⟨fps, this⟩

def Sq (k : AS → Prop) (Q : Exit → AS → Prop) : Exit → AS → Prop
  | .normal, s => k s
  | e, s => Q e s
def Bk (id : Nat) (Q : Exit → AS → Prop) : Exit → AS → Prop
  | .exit id', s => bif Nat.beq id' id then Q .normal s else Q (.exit id') s
  | e, s => Q e s
section
variable {E : Env} {s : AS} {Q : Exit → AS → Prop}
theorem awp_region {id : Nat} {l : List Oper} (h : AL E l l s Q) : AWP E (.region id l.toArray false) s Q := fun g im a w hs => wp_region_lit (h g im a w hs)
theorem awp_seq {x y : Code} (h : AWP E x s (Sq (fun s' => AWP E y s' Q) Q)) : AWP E (.seq x y) s Q := fun g im a w hs =>
  wp_seq (wp_mono (h g im a w hs) fun e a' w' ⟨g', im', s', h1, h2⟩ => by
    cases e with
    | normal => exact h2 g' im' a' w' h1
    | _ => exact ⟨g', im', s', h1, h2⟩)
theorem awp_block {id : Nat} {c : Code} (h : AWP E c s (Bk id Q)) : AWP E (.block id c) s Q := fun g im a w hs =>
  wp_block (wp_mono (h g im a w hs) fun e a' w' ⟨g', im', s', h1, h2⟩ => by
    cases e with
    | exit id' =>
      simp only [Exit.inBlock, Bk] at h2 ⊢
      cases he : Nat.beq id' id with
      | true =>
        rw [if_pos (Nat.eq_of_beq_eq_true he)]
        rw [he] at h2
        exact ⟨g', im', s', h1, h2⟩
      | false =>
        rw [if_neg (fun e => by rw [e, Nat.beq_refl] at he; cases he)]
        rw [he] at h2
        exact ⟨g', im', s', h1, h2⟩
    | _ => exact ⟨g', im', s', h1, h2⟩)
theorem awp_cond {c : Operand} {x y : Code} {b : Bool} (hc : s.eval c = some (.h (.c (.bool b)))) (ht : b = true → AWP E x s Q) (hf : b = false → AWP E y s Q) : AWP E (.cond c x y) s Q := fun g im a w hs => by
  obtain ⟨fps, hs'⟩ := hs
  have e := RA_bool (hs'.eval hc)
  cases b with
  | true => exact wp_cond_true e (ht rfl g im a w ⟨fps, hs'⟩)
  | false => exact wp_cond_false e (hf rfl g im a w ⟨fps, hs'⟩)
theorem awp_ret (h : Q .ret s) : AWP E .ret s Q := fun g im _ _ hs => wp_ret ⟨g, im, s, hs, h⟩
theorem awp_skip (h : Q .normal s) : AWP E .skip s Q := fun g im _ _ hs => wp_skip ⟨g, im, s, hs, h⟩
theorem awp_exit {id : Nat} (h : Q (.exit id) s) : AWP E (.exit id) s Q := fun g im _ _ hs => wp_exit ⟨g, im, s, hs, h⟩
theorem awp_mono {c : Code} {Q' : Exit → AS → Prop} (h : AWP E c s Q') (hq : ∀ e s, Q' e s → Q e s) : AWP E c s Q := fun g im a w hs =>
  wp_mono (h g im a w hs) fun e _ _ ⟨g', im', s', h1, h2⟩ => ⟨g', im', s', h1, hq e s' h2⟩
/-- Leaving the code by an end, from a state: what must hold. -/
def XT (e : Exit) (s : AS) (Q : Exit → AS → Prop) : Prop := Q e s
theorem xt_sq_n {k : AS → Prop} (h : k s) : XT .normal s (Sq k Q) := h
theorem xt_bk_n {id : Nat} (h : XT .normal s Q) : XT .normal s (Bk id Q) := h
theorem xt_sq_r {k : AS → Prop} (h : XT .ret s Q) : XT .ret s (Sq k Q) := h
theorem xt_bk_r {id : Nat} (h : XT .ret s Q) : XT .ret s (Bk id Q) := h
theorem xt_sq_x {id : Nat} {k : AS → Prop} (h : XT (.exit id) s Q) : XT (.exit id) s (Sq k Q) := h
theorem xt_bk_eq {id : Nat} (h : XT .normal s Q) : XT (.exit id) s (Bk id Q) := by
  show (bif Nat.beq id id then Q .normal s else Q (.exit id) s)
  rw [Nat.beq_refl]
  exact h
theorem xt_bk_ne {id id' : Nat} (hne : Nat.beq id id' = false) (h : XT (.exit id) s Q) : XT (.exit id) s (Bk id' Q) := by
  show (bif Nat.beq id id' then Q .normal s else Q (.exit id) s)
  rw [hne]
  exact h
theorem xt_end {e : Exit} {P' : Exit → AS → Prop} (h : P' e s) : XT e s P' := h
theorem al_end {l : List Oper} (h : XT .normal s Q) : AL E l [] s Q := al_nil h
theorem awp_skip' (h : XT .normal s Q) : AWP E .skip s Q := awp_skip h
theorem awp_ret' (h : XT .ret s Q) : AWP E .ret s Q := awp_ret h
theorem awp_exit' {id : Nat} (h : XT (.exit id) s Q) : AWP E (.exit id) s Q := awp_exit h
/-- Forget and rename ahead of code. -/
theorem awp_le {c : Code} {s' : AS} (r : List (Nat × Nat)) (h : Le E.k r s s') (k : AWP E c s' Q) : AWP E c s Q := fun _ im a w hs => k _ im a w (h.sim hs)
/-- A loop: J says of what number a state at the loop's head is good. -/
theorem awp_loop {c : Code} (J : Nat → AS → Prop) (n : Nat) (h0 : J n s)
    (hr : ∀ n s, J n s → AWP E c s (Sq (fun s' => ∃ n' r s'', n' < n ∧ Le E.k r s' s'' ∧ J n' s'') Q)) : AWP E (.loop c) s Q := by
  intro g im a w hs b k cs
  have key : ∀ n a w g im s, J n s → Sim E g im s a w → ∃ e a' w', Lift E Q e a' w' ∧ Arrives E.P (lone (b.at a (.code c :: .inLoop c :: k)) cs w) b k cs e a' w' := by
    intro n
    induction n using Nat.strongRecOn with
    | _ n ih =>
      intro a w g im s hJ hs
      obtain ⟨e, a₁, w₁, hq, harr⟩ := hr n s hJ g im a w hs b (.inLoop c :: k) cs
      cases e with
      | normal =>
        obtain ⟨g', im', s', h1, n', r, s'', hlt, hle, hJ'⟩ := hq
        obtain ⟨e₂, a₂, w₂, hq₂, harr₂⟩ := ih n' hlt a₁ w₁ _ _ _ hJ' (hle.sim h1)
        exact ⟨e₂, a₂, w₂, hq₂, .of_steps (Steps.trans harr (.one step_inLoop)) harr₂⟩
      | exit id => exact ⟨_, a₁, w₁, hq, .pass (x := .inLoop c) rfl (fun _ _ => .inl (by simp)) harr⟩
      | goto l => exact ⟨_, a₁, w₁, hq, .pass (x := .inLoop c) rfl (fun _ _ => .inl (by simp)) harr⟩
      | ret => exact ⟨_, a₁, w₁, hq, .pass (x := .inLoop c) rfl (fun _ _ => .inl (by simp)) harr⟩
      | panic ch => exact ⟨_, a₁, w₁, hq, .pass (x := .inLoop c) rfl (fun _ _ => .inl (by simp)) harr⟩
      | outgrown => exact ⟨_, a₁, w₁, hq, .pass (x := .inLoop c) rfl (fun _ _ => .inl (by simp)) harr⟩
  obtain ⟨e, a', w', hq, harr⟩ := key n a w g im s h0 hs
  exact ⟨e, a', w', hq, .of_steps (.one step_loop) harr⟩
end
end Go.Proofs.Ythmgfgiaagkdeaa
/- The engine, part e: contracts of functions; how a body proves one; how a call uses one. -/
namespace Go.Proofs.Ythmgfgiaagkdeaa
open Go.RowKit

def num (k : Nat) : List Ob → List (Nat × Ob)
  | [] => []
  | o :: os => (k, o) :: num (k + 1) os
def imr (rt : List Nat) (im : Im) : Im := fun t b => t ∈ rt ∧ im t b
/-- The function has a body that is entered. -/
def FnOk (P : Program) (f : FuncId) : Prop := ∃ fn, P.funcs[f]? = some fn ∧ (fn.name == "runtime.NumGoroutine") = false ∧ fn.body.isNone = false
structure Back (w : World) (im : Im) (g : Ga) (fps : List Nat) (k : Nat) (rt : List Nat) (r : AV) (hout : List Ob) (v : Value) (w' : World) (g' : Ga) (im' : Im) (fps' : List Nat) : Prop where
  len : k ≤ hout.length
  res : RA g' (imr rt im') w' r v []
  hp : HR g' (imr rt im') w' (num 0 hout) fps'
  nd : fps'.Nodup
  fp : ∀ b ∈ fps', b < w'.heap.size ∧ (∀ t, ¬ im' t b) ∧ (w.heap.size ≤ b ∨ b ∈ fps)
  gx : ∀ i, i < k → g' i = g i
  gn : ∀ i, hout.length ≤ i → g' i = none
  gl : ∀ i bi b, g' i = some bi → bi.a = some b → b < w'.heap.size
  gf : ∀ i bi b, k ≤ i → g' i = some bi → bi.a = some b → w.heap.size ≤ b ∨ b ∈ fps
  imm : ∀ t b, im t b → im' t b
  imn : ∀ t b, im' t b → im t b ∨ (t = 0 ∧ w.heap.size ≤ b)
  iml : ∀ t b, im' t b → b < w'.heap.size
  kp : Keeps w w' (· ∈ fps)
/-- Called with these arguments, over these objects that are handed over, the function returns; the result and the objects meet the post; the result's read-only slices bear the tags rt alone. -/
def AC (P : Program) (f : FuncId) (args : List AV) (hin : List Ob) (rt : List Nat) (Post : AV → List Ob → Prop) : Prop :=
  FnOk P f ∧ ∀ (w : World) (g : Ga) (im : Im) (vs : List Value) (fps : List Nat),
    RAs g im w args vs [] → HR g im w (num 0 hin) fps → fps.Nodup → (∀ b ∈ fps, b < w.heap.size ∧ ∀ t, ¬ im t b) → (∀ t b, im t b → b < w.heap.size) →
    (∀ i, hin.length ≤ i → g i = none) → (∀ i bi b, g i = some bi → bi.a = some b → b < w.heap.size) →
    Calls P f vs.toArray w fun e w' => ∃ r hout v g' im' fps', Post r hout ∧ e = .returned v ∧ Back w im g fps hin.length rt r hout v w' g' im' fps'

mutual
def CV.Tg (rt : List Nat) : CV → Prop
  | .rd t _ xs => t ∈ rt ∧ CV.Tgs rt xs
  | .ow _ _ _ xs => CV.Tgs rt xs
  | _ => True
def CV.Tgs (rt : List Nat) : List CV → Prop
  | [] => True
  | x :: xs => x.Tg rt ∧ CV.Tgs rt xs
end
def HV.Tg (rt : List Nat) : HV → Prop
  | .c x => x.Tg rt
  | .rp t xs => t ∈ rt ∧ CV.Tgs rt xs
  | _ => True
def HV.Tgs (rt : List Nat) : List HV → Prop
  | [] => True
  | x :: xs => x.Tg rt ∧ HV.Tgs rt xs
mutual
def AV.Tg (rt : List Nat) : AV → Prop
  | .h x => x.Tg rt
  | .agg xs => HV.Tgs rt xs
  | .tup xs => AV.Tgs rt xs
  | .top => True
def AV.Tgs (rt : List Nat) : List AV → Prop
  | [] => True
  | x :: xs => x.Tg rt ∧ AV.Tgs rt xs
end
def Ob.Tg (rt : List Nat) : Ob → Prop
  | .arr _ _ xs => CV.Tgs rt xs
  | .box _ xs => HV.Tgs rt xs
  | .hrr _ _ xs => HV.Tgs rt xs
def Ob.Tgs (rt : List Nat) : List Ob → Prop
  | [] => True
  | x :: xs => x.Tg rt ∧ Ob.Tgs rt xs
section
variable {im : Im} {w : World} {g : Ga} {rt : List Nat}
mutual
theorem R_tag : ∀ (x : CV) (v : Value) (fp : List Nat), R im w x v fp → x.Tg rt → R (imr rt im) w x v fp
  | .int k n, v, fp, h, _ => by simpa only [R] using h
  | .bool b, v, fp, h, _ => by simpa only [R] using h
  | .nil, v, fp, h, _ => by simpa only [R] using h
  | .fn f, v, fp, h, _ => by simpa only [R] using h
  | .rd t n xs, v, fp, h, ht => by
    simp only [R, CV.Tg] at h ht ⊢
    obtain ⟨h1, A, c, h2, h3, h4, h5⟩ := h
    refine ⟨h1, A, c, h2, h3, h4, ?_⟩
    rcases h5 with h5 | ⟨b, o, h5, h6, h7⟩
    · exact .inl h5
    · exact .inr ⟨b, o, h5, ⟨ht.1, h6⟩, RL_tag xs b o [] h7 ht.2⟩
  | .ow ty e n xs, v, fp, h, ht => by
    simp only [R, CV.Tg] at h ht ⊢
    rcases h with h | ⟨b, c, cur, f, h1, h2, h3, h4, h5, h6, h7⟩
    · exact .inl h
    · exact .inr ⟨b, c, cur, f, h1, h2, h3, h4, h5, h6, RL_tag xs b 0 f h7 ht⟩
theorem RL_tag : ∀ (xs : List CV) (b o : Nat) (fp : List Nat), RL im w b xs o fp → CV.Tgs rt xs → RL (imr rt im) w b xs o fp
  | [], b, o, fp, h, _ => by simpa only [RL] using h
  | x :: xs, b, o, fp, h, ht => by
    simp only [RL, CV.Tgs] at h ht ⊢
    obtain ⟨u, f1, f2, h1, h2, h3, h4⟩ := h
    exact ⟨u, f1, f2, h1, h2, R_tag x u f1 h3 ht.1, RL_tag xs b (o + 1) f2 h4 ht.2⟩
end
theorem RH_tag (x : HV) (v : Value) (fp : List Nat) (h : RH g im w x v fp) (ht : x.Tg rt) : RH g (imr rt im) w x v fp := by
  cases x with
  | c x => exact R_tag x v fp h ht
  | rp t xs =>
    obtain ⟨h1, b, o, h2, h3, h4⟩ := h
    exact ⟨h1, b, o, h2, ⟨ht.1, h3⟩, RL_tag xs b o [] h4 ht.2⟩
  | _ => exact h
theorem RHs_tag : ∀ (xs : List HV) (vs : List Value) (fp : List Nat), RHs g im w xs vs fp → HV.Tgs rt xs → RHs g (imr rt im) w xs vs fp
  | [], vs, fp, h, _ => h
  | x :: xs, vs, fp, h, ht => by
    obtain ⟨v, vs', f1, f2, rfl, rfl, h1, h2⟩ := h
    exact ⟨v, vs', f1, f2, rfl, rfl, RH_tag x v f1 h1 ht.1, RHs_tag xs vs' f2 h2 ht.2⟩
mutual
theorem RA_tag : ∀ (x : AV) (v : Value) (fp : List Nat), RA g im w x v fp → x.Tg rt → RA g (imr rt im) w x v fp
  | .h x, v, fp, h, ht => by simp only [RA, AV.Tg] at h ht ⊢; exact RH_tag x v fp h ht
  | .agg xs, v, fp, h, ht => by
    simp only [RA, AV.Tg] at h ht ⊢
    obtain ⟨cs, h1, h2⟩ := h
    exact ⟨cs, h1, RHs_tag xs cs fp h2 ht⟩
  | .tup xs, v, fp, h, ht => by
    simp only [RA, AV.Tg] at h ht ⊢
    obtain ⟨cs, h1, h2⟩ := h
    exact ⟨cs, h1, RAs_tag xs cs fp h2 ht⟩
  | .top, v, fp, h, _ => by simpa only [RA] using h
theorem RAs_tag : ∀ (xs : List AV) (vs : List Value) (fp : List Nat), RAs g im w xs vs fp → AV.Tgs rt xs → RAs g (imr rt im) w xs vs fp
  | [], vs, fp, h, _ => by simpa only [RAs] using h
  | x :: xs, vs, fp, h, ht => by
    simp only [RAs, AV.Tgs] at h ht ⊢
    obtain ⟨v, vs', f1, f2, rfl, rfl, h1, h2⟩ := h
    exact ⟨v, vs', f1, f2, rfl, rfl, RA_tag x v f1 h1 ht.1, RAs_tag xs vs' f2 h2 ht.2⟩
end
theorem RO_tag (bi : BI) (o : Ob) (fp : List Nat) (h : RO g im w bi o fp) (ht : o.Tg rt) : RO g (imr rt im) w bi o fp := by
  cases o with
  | arr ty e xs =>
    obtain ⟨h1, h2, h3 | ⟨b, cur, f, h4, rfl, h6, h7, h8⟩⟩ := h
    · exact ⟨h1, h2, .inl h3⟩
    · exact ⟨h1, h2, .inr ⟨b, cur, f, h4, rfl, h6, h7, RL_tag xs b 0 f h8 ht⟩⟩
  | box ty xs =>
    obtain ⟨b, cs, f, h4, rfl, h6, h8⟩ := h
    exact ⟨b, cs, f, h4, rfl, h6, RHs_tag xs cs f h8 ht⟩
  | hrr ty e xs =>
    obtain ⟨h1, h2, h3 | ⟨b, cur, f, us, h4, rfl, h6, h7, h8, h9⟩⟩ := h
    · exact ⟨h1, h2, .inl h3⟩
    · exact ⟨h1, h2, .inr ⟨b, cur, f, us, h4, rfl, h6, h7, RHs_tag xs us f h8 ht, h9⟩⟩
theorem HR_tag : ∀ (k : Nat) (os : List Ob) (fp : List Nat), HR g im w (num k os) fp → Ob.Tgs rt os → HR g (imr rt im) w (num k os) fp
  | k, [], fp, h, _ => h
  | k, o :: os, fp, h, ht => by
    obtain ⟨bi, f1, f2, h1, rfl, h3, h4⟩ := h
    exact ⟨bi, f1, f2, h1, rfl, RO_tag bi o f1 h3 ht.1, HR_tag (k + 1) os f2 h4 ht.2⟩
end

def numA (k : Nat) : List AV → List (Nat × AV)
  | [] => []
  | x :: xs => (k, x) :: numA (k + 1) xs
def AS.enter (args : List AV) (hin : List Ob) : AS := { fr := numA 0 args, hp := num 0 hin, nx := hin.length }
/-- What a result variable holds. -/
def rv (te : TE) (s : AS) : ResultVar → Option AV
  | .tmp t => look t s.fr
  | .cell a t => match look a s.fr, look t te with
    | some (.h (.ptr id o)), some inf => match look id s.hp with
      | some (.box _ cs) => loadH inf (cs.drop o)
      | _ => none
    | _, _ => none
def rvs (te : TE) (s : AS) : List ResultVar → Option (List AV)
  | [] => some []
  | r :: rs => match rv te s r, rvs te s rs with
    | some x, some xs => some (x :: xs)
    | _, _ => none
def tupOf : List AV → AV
  | [x] => x
  | xs => .tup xs
/-- What must hold where the body ends. -/
structure Fin (te : TE) (k : Nat) (rs : List ResultVar) (rt : List Nat) (Post : AV → List Ob → Prop) (s : AS) (xs : List AV) (r : List (Nat × Nat)) (x : AV) (hout : List Ob) : Prop where
  res : rvs te s rs = some xs
  len : k ≤ hout.length
  ks : r.all (fun p => Nat.blt p.1 hout.length) = true
  kk : fixk r k = true
  val : tupOf xs = x.ren (sg r s.nx)
  hp : LeH (sg r s.nx) (num 0 hout) s.hp
  tg : x.Tg rt
  th : Ob.Tgs rt hout
  post : Post x hout
def resOne (tmps : Array Value) : ResultVar → Sem Value
  | .tmp t => pure (tmps.getD t undef)
  | .cell c t => do loadVar t (← asAddr (tmps.getD c undef))
/-- The end of a body: what is asked of it. -/
def FinQ (te : TE) (k : Nat) (rs : List ResultVar) (rt : List Nat) (Post : AV → List Ob → Prop) : Exit → AS → Prop := fun e s =>
  (e = .normal ∨ e = .ret) ∧ ∃ xs r x hout, Fin te k rs rt Post s xs r x hout
theorem rv_run {E : Env} {te : TE} (hte : teOk E.P te = true) {g : Ga} {im : Im} {fps : List Nat} {s : AS} {a : Act} {w : World} (hs : SimF E g im fps s a w) {r : ResultVar} {x : AV} (h : rv te s r = some x) :
    ∃ v, RA g im w x v [] ∧ (resOne a.tmps r).run E.P w = .ok v w := by
  cases r with
  | tmp t => exact ⟨_, hs.fr t x h, rfl⟩
  | cell c t =>
    simp only [rv] at h
    split at h
    · rename_i id o inf hx hl
      split at h
      · rename_i ty cs hb
        have hv := hs.fr _ _ hx
        simp only [RA, RH] at hv
        obtain ⟨_, bi, b, hg, hba, e⟩ := hv
        obtain ⟨bi', f1, f2, f3, hg', hf, hro⟩ := look_HR hs.hp hb
        obtain rfl : bi = bi' := by rw [hg] at hg'; exact Option.some.inj hg'
        obtain ⟨b', vs, f, hb', hf2, hh, hr⟩ := hro
        obtain rfl : b = b' := by rw [hba] at hb'; exact Option.some.inj hb'
        obtain ⟨f', hr'⟩ := RHs_drop cs vs f o hr
        obtain ⟨h1, h2⟩ := loadH_RA (teOk_look hte hl).one h hr'
        have hrun := run_load_cells (P := E.P) hte hl w b o ((vs.drop o).take inf.sz) h1 (fun j u hu => by
            rw [cell_of_row w b (o + j) vs.toArray ty (0, 0) hh]
            rw [List.getElem?_take] at hu
            split at hu
            · rw [List.getElem?_drop] at hu
              simpa using hu
            · cases hu)
        refine ⟨_, h2, ?_⟩
        simp only [resOne, e, asAddr, Sem.run_bind, Sem.run_pure, Result.andThen_ok]
        simpa [Instr.loadAt, Instr.sureAddr] using hrun
      · cases h
    · cases h
theorem rvs_run {E : Env} {te : TE} (hte : teOk E.P te = true) {g : Ga} {im : Im} {fps : List Nat} {s : AS} {a : Act} {w : World} (hs : SimF E g im fps s a w) : ∀ {rs : List ResultVar} {xs : List AV}, rvs te s rs = some xs →
    ∃ vs, RAs g im w xs vs [] ∧ (rs.mapM (resOne a.tmps)).run E.P w = .ok vs w
  | [], xs, h => by simp only [rvs, Option.some.injEq] at h; subst h; exact ⟨[], by simp [RAs], by simp⟩
  | r :: rs, xs, h => by
    simp only [rvs] at h
    split at h
    · rename_i x ys hx hys
      injection h with h; subst h
      obtain ⟨v, h1, h2⟩ := rv_run hte hs hx
      obtain ⟨vs, h3, h4⟩ := rvs_run hte hs hys
      refine ⟨v :: vs, ?_, ?_⟩
      · simp only [RAs]; exact ⟨v, vs, [], [], rfl, rfl, h1, h3⟩
      · rw [List.mapM_cons, Sem.run_bind, h2]
        simp only [Result.andThen_ok, Sem.run_bind, h4, Sem.run_pure]
    · cases h
theorem RAs_length {g : Ga} {im : Im} {w : World} : ∀ (xs : List AV) (vs : List Value) (fp : List Nat), RAs g im w xs vs fp → vs.length = xs.length
  | [], vs, fp, h => by simp only [RAs] at h; rw [h.1]; rfl
  | x :: xs, vs, fp, h => by
    simp only [RAs] at h
    obtain ⟨v, vs', f1, f2, rfl, rfl, h1, h2⟩ := h
    simp [RAs_length xs vs' f2 h2]
theorem results_run {E : Env} {te : TE} (hte : teOk E.P te = true) {g : Ga} {im : Im} {fps : List Nat} {s : AS} {a : Act} {w : World} (hs : SimF E g im fps s a w) {fn : Func} {xs : List AV} (h : rvs te s fn.results.toList = some xs) :
    ∃ v, RA g im w (tupOf xs) v [] ∧ (results fn a.tmps).run E.P w = .ok v w := by
  obtain ⟨vs, h1, h2⟩ := rvs_run hte hs h
  have hl := RAs_length _ _ _ h1
  have he : results fn a.tmps = (do
      let vs ← fn.results.mapM (resOne a.tmps)
      pure (if h : vs.size = 1 then vs[0] else .tuple vs)) := by
    unfold results
    congr 1
  rw [he, Sem.run_bind]
  have hm : (fn.results.mapM (resOne a.tmps)).run E.P w = .ok vs.toArray w := by
    rw [Array.mapM_eq_mapM_toList]
    simp [h2]
  rw [hm]
  simp only [Result.andThen_ok, Sem.run_pure]
  match xs, vs, hl, h1 with
  | [], [], _, h1 => exact ⟨_, by simp only [tupOf, RA]; exact ⟨[], rfl, h1⟩, rfl⟩
  | [x], [v], _, h1 =>
    refine ⟨_, ?_, rfl⟩
    simp only [RAs] at h1
    obtain ⟨v', vs', f1, f2, h3, h4, h5, _⟩ := h1
    obtain ⟨rfl, rfl⟩ := List.cons.inj h3
    obtain ⟨rfl, rfl⟩ := List.append_eq_nil_iff.1 h4.symm
    simpa [tupOf] using h5
  | x :: y :: zs, v :: u :: us, _, h1 =>
    refine ⟨_, ?_, rfl⟩
    simp only [tupOf, RA]
    exact ⟨_, by simp, h1⟩
theorem numA_look {g : Ga} {im : Im} {w : World} : ∀ (xs : List AV) (vs : List Value) (k : Nat) (pre post : List Value) (t : Nat) (x : AV), RAs g im w xs vs [] → pre.length = k → look t (numA k xs) = some x → RA g im w x ((pre ++ (vs ++ post)).toArray.getD t undef) []
  | [], vs, k, pre, post, t, x, h, _, hl => by simp [numA, look] at hl
  | y :: ys, vs, k, pre, post, t, x, h, hk, hl => by
    simp only [RAs] at h
    obtain ⟨v, vs', f1, f2, rfl, hf, h1, h2⟩ := h
    obtain ⟨rfl, rfl⟩ := List.append_eq_nil_iff.1 hf.symm
    by_cases ht : t = k
    · subst ht
      simp only [numA, look_cons_eq, Option.some.injEq] at hl
      subst hl
      have : (pre ++ (v :: vs' ++ post)).toArray.getD t undef = v := by simp [← hk]
      rw [this]
      exact h1
    · simp only [numA, look_cons_ne ht] at hl
      have := numA_look ys vs' (k + 1) (pre ++ [v]) post t x h2 (by simp [hk]) hl
      simpa using this
theorem RO_mem {g : Ga} {im : Im} {w : World} {bi : BI} {o : Ob} {fp : List Nat} (h : RO g im w bi o fp) {b : Nat} (hb : bi.a = some b) : b ∈ fp := by
  cases o with
  | arr ty e xs =>
    obtain ⟨_, _, ⟨h3, _⟩ | ⟨b', cur, f, h4, rfl, _⟩⟩ := h
    · rw [hb] at h3; cases h3
    · rw [hb] at h4; injection h4 with h4; subst h4; exact List.mem_cons_self
  | box ty xs =>
    obtain ⟨b', cs, f, h4, rfl, _⟩ := h
    rw [hb] at h4; injection h4 with h4; subst h4; exact List.mem_cons_self
  | hrr ty e xs =>
    obtain ⟨_, _, ⟨h3, _⟩ | ⟨b', cur, f, us, h4, rfl, _⟩⟩ := h
    · rw [hb] at h3; cases h3
    · rw [hb] at h4; injection h4 with h4; subst h4; exact List.mem_cons_self
theorem HR_num_mem {g : Ga} {im : Im} {w : World} : ∀ (k : Nat) (os : List Ob) (fp : List Nat), HR g im w (num k os) fp → ∀ i bi b, k ≤ i → i < k + os.length → g i = some bi → bi.a = some b → b ∈ fp
  | k, [], fp, _, i, bi, b, h1, h2, _, _ => by simp at h2; omega
  | k, o :: os, fp, h, i, bi, b, h1, h2, h3, h4 => by
    obtain ⟨bi', f1, f2, h5, rfl, h6, h7⟩ := h
    by_cases hi : i = k
    · subst hi
      rw [h3] at h5
      injection h5 with h5; subst h5
      exact List.mem_append_left _ (RO_mem h6 h4)
    · exact List.mem_append_right _ (HR_num_mem (k + 1) os f2 h7 i bi b (by omega) (by simp at h2; omega) h3 h4)
/-- **A body proves a contract.** -/
theorem ac_of_awp {P : Program} {te : TE} (hte : teOk P te = true) {f : FuncId} {fn : Func} {c : Code} {nt : Nat} {args : List AV} {hin : List Ob} {rt : List Nat} {Post : AV → List Ob → Prop}
    (hf : P.funcs[f]? = some fn) (hb : fn.body = some c) (hn : (fn.name == "runtime.NumGoroutine") = false) (hnt : fn.ntmps = nt) (hle : args.length ≤ nt) (hrt : rt.all (fun t => Nat.blt t 100) = true)
    (h : ∀ w0 ps g0 im0, AWP ⟨P, te, hte, nt, w0, ps, hin.length, g0, im0⟩ c (AS.enter args hin) (FinQ te hin.length fn.results.toList rt Post)) : AC P f args hin rt Post := by
  refine ⟨⟨fn, hf, hn, by rw [hb]; rfl⟩, ?_⟩
  intro w g im vs fps hargs hhr hnd hfp him hgn hgl
  refine calls_of_wp hf hb ?_
  have hl := RAs_length _ _ _ hargs
  let E : Env := ⟨P, te, hte, nt, w, (· ∈ fps), hin.length, g, im⟩
  have hsim : Sim E g im (AS.enter args hin) { tmps := vs.toArray ++ Array.replicate (fn.ntmps - vs.toArray.size) undef, defers := [] } w := by
    refine ⟨fps, rfl, ?_, ?_, hhr, hnd, fun b hb => (hfp b hb).1, fun b hb => (hfp b hb).2, fun b hb => .inr hb, hgn, hgl, him, ⟨rfl, rfl, rfl, Nat.le_refl _, fun _ _ _ => rfl⟩, Nat.le_refl _, fun _ _ => rfl, fun _ _ h => h, fun _ _ _ h => .inl h⟩
    · simp [hnt, E, hl]; omega
    · intro t x hx
      have := numA_look args vs 0 [] (List.replicate (fn.ntmps - vs.length) undef) t x hargs rfl hx
      have he : (vs.toArray ++ Array.replicate (fn.ntmps - vs.toArray.size) undef) = ([] ++ (vs ++ List.replicate (fn.ntmps - vs.length) undef)).toArray := by simp
      simp only [he]
      exact this
  refine wp_mono (h w (· ∈ fps) g im g im _ w hsim) ?_
  rintro e a' w' ⟨g', im', s, ⟨fps', hs⟩, he, xs, r, x, hout, hfin⟩
  obtain ⟨v, hv, hrun⟩ := results_run (E := E) hte hs hfin.res
  obtain ⟨fps'', h1, h2, h3⟩ := LeH_HR _ _ _ hs.hp hfin.hp hs.nd
  have hgn' : ∀ j, hout.length ≤ j → g' (sg r s.nx j) = none := by
    intro j hj
    apply hs.gn
    unfold sg
    cases hl : look j r with
    | none => simp
    | some i =>
      exfalso
      obtain ⟨l1, l2, hl, _⟩ := look_split hl
      have := List.all_eq_true.1 hfin.ks (j, i) (by rw [hl]; simp)
      have : j < hout.length := Nat.lt_of_succ_le (Nat.le_of_ble_eq_true this)
      omega
  let im2 : Im := fun t b => if t < 100 then im' t b else im t b
  have hi2 : ∀ t b, im2 t b → im' t b := fun t b h => by
    simp only [im2] at h
    split at h
    · exact h
    · exact hs.i0 t b h
  have hrt2 : ∀ t b, imr rt im' t b → imr rt im2 t b := fun t b h => ⟨h.1, by
    have := List.all_eq_true.1 hrt t h.1
    have : t < 100 := Nat.lt_of_succ_le (Nat.le_of_ble_eq_true this)
    simp only [im2]
    rw [if_pos this]
    exact h.2⟩
  have hmono : ∀ t b, imr rt im' t b → imr rt im2 t b ∧ w'.heap[b]? = w'.heap[b]? := fun t b h => ⟨hrt2 t b h, rfl⟩
  have hres : Back w im g fps hin.length rt x hout v w' (fun j => g' (sg r s.nx j)) im2 fps'' := by
    refine ⟨hfin.len, ?_, ?_, h2, fun b hb => ⟨hs.lt b (h3 b hb), fun t h => hs.ni b (h3 b hb) t (hi2 t b h), hs.mine b (h3 b hb)⟩, ?_, hgn', fun i bi b h1 h2 => hs.gl _ bi b h1 h2, ?_, ?_, ?_, fun t b h => hs.il t b (hi2 t b h), hs.kp⟩
    · rw [hfin.val] at hv
      exact RA_mono (fun _ _ h => h) hmono _ _ _ (fun _ _ => rfl) (RA_tag _ _ _ (RA_ren x v [] hv) hfin.tg)
    · exact HR_mono (fun _ _ h => h) hmono _ _ (fun _ _ => rfl) (HR_tag _ _ _ h1 hfin.th)
    · intro i hi
      show g' (sg r s.nx i) = _
      rw [fixk_sg hfin.kk i hi]
      exact hs.g0 i hi
    · intro i bi b hi hg hb
      by_cases hlt : i < hout.length
      · exact hs.mine b (h3 b (HR_num_mem 0 hout fps'' h1 i bi b (Nat.zero_le _) (by omega) hg hb))
      · rw [hgn' i (by omega)] at hg; cases hg
    · intro t b h
      simp only [im2]
      split
      · exact hs.i0 t b h
      · exact h
    · intro t b h
      simp only [im2] at h
      split at h
      · exact hs.i1 t b (by assumption) h
      · exact .inl h
  have hend : bodyPost P fn (fun e w' => ∃ r hout v g' im' fps', Post r hout ∧ e = .returned v ∧ Back w im g fps hin.length rt r hout v w' g' im' fps') e a' w' := by
    rcases he with rfl | rfl
    · exact ⟨hs.dfr, v, hrun, x, hout, v, _, im2, fps'', hfin.post, rfl, hres⟩
    · exact ⟨hs.dfr, v, hrun, x, hout, v, _, im2, fps'', hfin.post, rfl, hres⟩
  exact hend
end Go.Proofs.Ythmgfgiaagkdeaa
/- The engine, part f: a call uses a contract. -/
namespace Go.Proofs.Ythmgfgiaagkdeaa
open Go.RowKit

section
variable {g g' : Ga} {im im' : Im} {w : World} {f : Nat → Nat} (hg : ∀ j bi, g j = some bi → g' (f j) = some bi)
include hg
theorem RH_map (hi : ∀ t b, im t b → im' t b) (x : HV) (v : Value) (fp : List Nat) (h : RH g im w x v fp) : RH g' im' w (x.ren f) v fp := by
  cases x with
  | c x => exact R_mono (fun t b hb => ⟨hi t b hb, rfl⟩) x v fp (fun _ _ => rfl) h
  | sl id i n =>
    obtain ⟨h1, bi, h2, h3⟩ := h
    exact ⟨h1, bi, hg _ _ h2, h3⟩
  | sw id i n =>
    obtain ⟨h1, bi, A, c, h2, h3⟩ := h
    exact ⟨h1, bi, A, c, hg _ _ h2, h3⟩
  | ptr id o =>
    obtain ⟨h1, bi, b, h2, h3⟩ := h
    exact ⟨h1, bi, b, hg _ _ h2, h3⟩
  | rp t xs =>
    obtain ⟨h1, b, o, h2, h3, h4⟩ := h
    exact ⟨h1, b, o, h2, hi t b h3, RL_mono (fun t b hb => ⟨hi t b hb, rfl⟩) xs b o [] rfl (fun _ h => by cases h) h4⟩
theorem RHs_map (hi : ∀ t b, im t b → im' t b) : ∀ (xs : List HV) (vs : List Value) (fp : List Nat), RHs g im w xs vs fp → RHs g' im' w (HV.rens f xs) vs fp
  | [], vs, fp, h => h
  | x :: xs, vs, fp, h => by
    obtain ⟨v, vs', f1, f2, rfl, rfl, h1, h2⟩ := h
    exact ⟨v, vs', f1, f2, rfl, rfl, RH_map hg hi x v f1 h1, RHs_map hi xs vs' f2 h2⟩
end
section
variable {g g' : Ga} {im im' : Im} {w : World} {f : Nat → Nat}
mutual
theorem RA_map (hg : ∀ j bi, g j = some bi → g' (f j) = some bi) (hi : ∀ t b, im t b → im' t b) : ∀ (x : AV) (v : Value) (fp : List Nat), RA g im w x v fp → RA g' im' w (x.ren f) v fp
  | .h x, v, fp, h => by simp only [RA, AV.ren] at h ⊢; exact RH_map hg hi x v fp h
  | .agg xs, v, fp, h => by
    simp only [RA, AV.ren] at h ⊢
    obtain ⟨cs, h1, h2⟩ := h
    exact ⟨cs, h1, RHs_map hg hi xs cs fp h2⟩
  | .tup xs, v, fp, h => by
    simp only [RA, AV.ren] at h ⊢
    obtain ⟨cs, h1, h2⟩ := h
    exact ⟨cs, h1, RAs_map hg hi xs cs fp h2⟩
  | .top, v, fp, h => by simpa only [RA, AV.ren] using h
theorem RAs_map (hg : ∀ j bi, g j = some bi → g' (f j) = some bi) (hi : ∀ t b, im t b → im' t b) : ∀ (xs : List AV) (vs : List Value) (fp : List Nat), RAs g im w xs vs fp → RAs g' im' w (AV.rens f xs) vs fp
  | [], vs, fp, h => by simpa only [RAs, AV.rens] using h
  | x :: xs, vs, fp, h => by
    simp only [RAs, AV.rens] at h ⊢
    obtain ⟨v, vs', f1, f2, rfl, rfl, h1, h2⟩ := h
    exact ⟨v, vs', f1, f2, rfl, rfl, RA_map hg hi x v f1 h1, RAs_map hg hi xs vs' f2 h2⟩
end
theorem RO_map (hg : ∀ j bi, g j = some bi → g' (f j) = some bi) (hi : ∀ t b, im t b → im' t b) {bi : BI} {o : Ob} {fp : List Nat} (h : RO g im w bi o fp) : RO g' im' w bi (o.ren f) fp := by
  cases o with
  | arr ty e xs =>
    obtain ⟨h1, h2, h3 | ⟨b, cur, f', h4, rfl, h6, h7, h8⟩⟩ := h
    · exact ⟨h1, h2, .inl h3⟩
    · exact ⟨h1, h2, .inr ⟨b, cur, f', h4, rfl, h6, h7, RL_mono (fun t b hb => ⟨hi t b hb, rfl⟩) xs b 0 f' rfl (fun _ _ => rfl) h8⟩⟩
  | box ty xs =>
    obtain ⟨b, cs, f', h4, rfl, h6, h8⟩ := h
    exact ⟨b, cs, f', h4, rfl, h6, RHs_map hg hi xs cs f' h8⟩
  | hrr ty e xs =>
    obtain ⟨h1, h2, h3 | ⟨b, cur, f', us, h4, rfl, h6, h7, h8, h9⟩⟩ := h
    · obtain ⟨q1, q2, q3, q4⟩ := h3
      exact ⟨h1, h2, .inl ⟨q1, by rw [q2]; rfl, q3, q4⟩⟩
    · exact ⟨h1, h2, .inr ⟨b, cur, f', us, h4, rfl, h6, h7, RHs_map hg hi xs us f' h8, h9⟩⟩
end
/-- The objects that come back, under the caller's names. -/
def named (f : Nat → Nat) (k : Nat) : List Ob → List (Nat × Ob)
  | [] => []
  | o :: os => (f k, o.ren f) :: named f (k + 1) os
theorem HR_named {g g' : Ga} {im im' : Im} {w : World} {f : Nat → Nat} (hg : ∀ j bi, g j = some bi → g' (f j) = some bi) (hi : ∀ t b, im t b → im' t b) : ∀ (k : Nat) (os : List Ob) (fp : List Nat), HR g im w (num k os) fp → HR g' im' w (named f k os) fp
  | k, [], fp, h => h
  | k, o :: os, fp, h => by
    obtain ⟨bi, f1, f2, h1, rfl, h3, h4⟩ := h
    exact ⟨bi, f1, f2, hg _ _ h1, rfl, RO_map hg hi h3, HR_named hg hi (k + 1) os f2 h4⟩

mutual
def CV.brw (T : Nat) : CV → CV
  | .ow _ _ n xs => .rd T n (CV.brws T xs)
  | .int k n => .int k n
  | .bool b => .bool b
  | .nil => .nil
  | .fn f => .fn f
  | .rd t n xs => .rd t n xs
def CV.brws (T : Nat) : List CV → List CV
  | [] => []
  | x :: xs => x.brw T :: CV.brws T xs
end
section
variable {im im' : Im} {w : World} {T : Nat}
mutual
theorem R_brw (hi : ∀ t b, im t b → im' t b) : ∀ (x : CV) (v : Value) (fp : List Nat), R im w x v fp → (∀ b ∈ fp, im' T b) → R im' w (x.brw T) v []
  | .int k n, v, fp, h, _ => by simp only [R, CV.brw] at h ⊢; exact ⟨h.1, trivial⟩
  | .bool b, v, fp, h, _ => by simp only [R, CV.brw] at h ⊢; exact ⟨h.1, trivial⟩
  | .nil, v, fp, h, _ => by simp only [R, CV.brw] at h ⊢; exact ⟨h.1, trivial⟩
  | .fn f, v, fp, h, _ => by simp only [R, CV.brw] at h ⊢; exact ⟨h.1, trivial⟩
  | .rd t n xs, v, fp, h, hf => by
    have hfp : fp = [] := by simp only [R] at h; exact h.1
    subst hfp
    simp only [CV.brw]
    exact R_mono (fun t b hb => ⟨hi t b hb, rfl⟩) _ v [] (fun _ _ => rfl) h
  | .ow ty e n xs, v, fp, h, hf => by
    simp only [R, CV.brw] at h ⊢
    rcases h with ⟨h1, h2, h3, h4⟩ | ⟨b, c, cur, f, h1, h2, h3, h4, h5, h6, h7⟩
    · subst h3 h2
      exact ⟨trivial, none, 0, h1, Nat.le_refl _, Nat.zero_le _, .inl (by simp [CV.brws])⟩
    · refine ⟨trivial, _, c, h1, h2, h3, .inr ⟨b, 0, rfl, hf b (by rw [h6]; exact List.mem_cons_self), ?_⟩⟩
      exact RL_brws hi xs b 0 f h7 (fun b hb => hf b (by rw [h6]; exact List.mem_cons_of_mem _ hb))
theorem RL_brws (hi : ∀ t b, im t b → im' t b) : ∀ (xs : List CV) (b o : Nat) (fp : List Nat), RL im w b xs o fp → (∀ b ∈ fp, im' T b) → RL im' w b (CV.brws T xs) o []
  | [], b, o, fp, h, _ => by simp only [CV.brws, RL]
  | x :: xs, b, o, fp, h, hf => by
    simp only [RL, CV.brws] at h ⊢
    obtain ⟨u, f1, f2, h1, h2, h3, h4⟩ := h
    subst h1
    exact ⟨u, [], [], rfl, h2, R_brw hi x u f1 h3 (fun b hb => hf b (List.mem_append_left _ hb)), RL_brws hi xs b (o + 1) f2 h4 (fun b hb => hf b (List.mem_append_right _ hb))⟩
end
end
def posn (id : Nat) : List Nat → Nat → Option Nat
  | [], _ => none
  | p :: ps, k => bif Nat.beq p id then some k else posn id ps (k + 1)
/-- A caller's handle, and what the callee is handed: slices of the objects ps are handed over, others are lent under the tag T. -/
def BorH (rest : List (Nat × Ob)) (ps : List Nat) (T : Nat) : HV → HV → Prop
  | .c x, y => y = .c x
  | .sl id i n, y => (∃ j, posn id ps 0 = some j ∧ y = .sl j i n) ∨ ∃ ty e xs ys m, look id rest = some (.arr ty e xs) ∧ CV.brws T ((xs.drop (i * e)).take m) = ys ∧ y = .c (.rd T n ys)
  | .sw id i n, y => ∃ ty e xs ys m, look id rest = some (.arr ty e xs) ∧ (n = 0 → m = 0) ∧ CV.brws T ((xs.drop (i * e)).take m) = ys ∧ y = .c (.rd T n ys)
  | .ptr id o, y => ∃ j, posn id ps 0 = some j ∧ y = .ptr j o
  | .rp t xs, y => y = .rp t xs
def BorHs (rest : List (Nat × Ob)) (ps : List Nat) (T : Nat) : List HV → List HV → Prop
  | [], [] => True
  | x :: xs, y :: ys => BorH rest ps T x y ∧ BorHs rest ps T xs ys
  | _, _ => False
def BorA (rest : List (Nat × Ob)) (ps : List Nat) (T : Nat) : AV → AV → Prop
  | .h x, .h y => BorH rest ps T x y
  | .agg xs, .agg ys => BorHs rest ps T xs ys
  | _, _ => False
def BorAs (rest : List (Nat × Ob)) (ps : List Nat) (T : Nat) : List AV → List AV → Prop
  | [], [] => True
  | x :: xs, y :: ys => BorA rest ps T x y ∧ BorAs rest ps T xs ys
  | _, _ => False
theorem posn_nth {id : Nat} : ∀ {ps : List Nat} {k j : Nat}, posn id ps k = some j → k ≤ j ∧ nth ps (j - k) = some id
  | [], k, j, h => by simp [posn] at h
  | p :: ps, k, j, h => by
    simp only [posn] at h
    cases hb : Nat.beq p id with
    | true =>
      rw [hb] at h
      simp only [cond_true, Option.some.injEq] at h
      subst h
      have := Nat.eq_of_beq_eq_true hb
      subst this
      simp [nth]
    | false =>
      rw [hb] at h
      obtain ⟨h1, h2⟩ := posn_nth (ps := ps) (by simpa using h)
      refine ⟨by omega, ?_⟩
      have : j - k = (j - (k + 1)) + 1 := by omega
      rw [this]
      exact h2
section
variable {g gc : Ga} {im imc : Im} {w : World} {rest : List (Nat × Ob)} {ps : List Nat} {T : Nat} {fb : List Nat} (hgc : ∀ j id bi, nth ps j = some id → g id = some bi → gc j = some bi) (hi : ∀ t b, im t b → imc t b) (hr : HR g im w rest fb) (hT : ∀ b ∈ fb, imc T b)
include hgc hi hr hT
theorem BorH_RH : ∀ (x y : HV) (v : Value), BorH rest ps T x y → RH g im w x v [] → RH gc imc w y v [] := by
  have view : ∀ (id i n : Nat) (ty e : Nat) (xs ys : List CV) (m : Nat) (bi : BI) (A : Option Addr) (c : Nat), g id = some bi → look id rest = some (.arr ty e xs) → CV.brws T ((xs.drop (i * e)).take m) = ys → n ≤ c → c ≤ maxLen →
      (xs ≠ [] → (n = 0 ∧ m = 0) ∨ ∃ b, bi.a = some b ∧ A = some ⟨b, i * bi.e, none⟩) → RH gc imc w (.c (.rd T n ys)) (.slice A n c) [] := by
    intro id i n ty e xs ys m bi A c hg hl hv h3 h4 hA
    obtain ⟨bi', f1, f2, f3, hg', hf, hro⟩ := look_HR hr hl
    obtain rfl : bi = bi' := by rw [hg] at hg'; exact Option.some.inj hg'
    have hsub : ∀ b ∈ f2, imc T b := fun b hb => hT b (by rw [hf]; exact List.mem_append_right _ (List.mem_append_left _ hb))
    simp only [RH, R]
    refine ⟨trivial, A, c, rfl, h3, h4, ?_⟩
    obtain ⟨h5, h6, ⟨h7, h8, _⟩ | ⟨b, cur, f, h7, rfl, h9, h10, h11⟩⟩ := hro
    · subst h8
      left
      rw [← hv]
      simp [CV.brws]
    · by_cases hx : xs = []
      · left; rw [← hv, hx]; simp [CV.brws]
      · rcases hA hx with ⟨_, hm⟩ | ⟨b', hb', hA⟩
        · left; rw [← hv, hm]; simp [CV.brws]
        · rw [h7] at hb'
          injection hb' with hb'
          subst hb'
          right
          refine ⟨b, i * bi.e, hA, hsub b List.mem_cons_self, ?_⟩
          obtain ⟨g1, hg1, hd⟩ := RL_drop xs (i * e) 0 f h11
          obtain ⟨g2, hg2, ht⟩ := RL_take _ m _ _ hd
          rw [← hv, h6]
          simp only [Nat.zero_add] at ht
          exact RL_brws hi _ b (i * e) g2 ht (fun b hb => hsub b (List.mem_cons_of_mem _ (hg1.subset (hg2.subset hb))))
  intro x y v h hx
  cases x with
  | c x =>
    simp only [BorH] at h
    subst h
    exact R_mono (fun t b hb => ⟨hi t b hb, rfl⟩) x v [] (fun _ _ => rfl) hx
  | sl id i n =>
    obtain ⟨_, bi, hg, h3, h4, rfl⟩ := hx
    rcases h with ⟨j, hj, rfl⟩ | ⟨ty, e, xs, ys, m, hl, hv, rfl⟩
    · obtain ⟨_, hn⟩ := posn_nth hj
      exact ⟨rfl, bi, hgc j id bi (by simpa using hn) hg, h3, h4, rfl⟩
    · unfold slv
      refine view id i n ty e xs ys m bi _ _ hg hl hv (by omega) (by omega) (fun hx => .inr ?_)
      obtain ⟨bi', f1, f2, f3, hg', hf, hro⟩ := look_HR hr hl
      obtain rfl : bi = bi' := by rw [hg] at hg'; exact Option.some.inj hg'
      obtain ⟨_, _, ⟨_, h8, _⟩ | ⟨b, cur, f, h7, _⟩⟩ := hro
      · exact absurd h8 hx
      · exact ⟨b, h7, by rw [h7]; rfl⟩
  | sw id i n =>
    obtain ⟨_, bi, A, c, hg, rfl, h3, h4, h5⟩ := hx
    obtain ⟨ty, e, xs, ys, m, hl, hm, hv, rfl⟩ := h
    refine view id i n ty e xs ys m bi A c hg hl hv h3 h4 (fun hx => ?_)
    rcases h5 with h5 | h5
    · exact .inl ⟨h5, hm h5⟩
    · exact .inr h5
  | ptr id o =>
    obtain ⟨_, bi, b, hg, hb, rfl⟩ := hx
    obtain ⟨j, hj, rfl⟩ := h
    obtain ⟨_, hn⟩ := posn_nth hj
    exact ⟨rfl, bi, b, hgc j id bi (by simpa using hn) hg, hb, rfl⟩
  | rp t xs =>
    simp only [BorH] at h
    subst h
    obtain ⟨h1, b, o, h2, h3, h4⟩ := hx
    exact ⟨h1, b, o, h2, hi t b h3, RL_mono (fun t b hb => ⟨hi t b hb, rfl⟩) xs b o [] rfl (fun _ h => by cases h) h4⟩
theorem BorHs_RHs : ∀ (xs ys : List HV) (vs : List Value), BorHs rest ps T xs ys → RHs g im w xs vs [] → RHs gc imc w ys vs []
  | [], [], vs, _, h => h
  | x :: xs, y :: ys, vs, hb, h => by
    obtain ⟨v, vs', f1, f2, rfl, hf, h1, h2⟩ := h
    obtain ⟨rfl, rfl⟩ := List.append_eq_nil_iff.1 hf.symm
    exact ⟨v, vs', [], [], rfl, rfl, BorH_RH hgc hi hr hT x y v hb.1 h1, BorHs_RHs xs ys vs' hb.2 h2⟩
  | [], _ :: _, _, hb, _ => hb.elim
  | _ :: _, [], _, hb, _ => hb.elim
theorem BorA_RA (x y : AV) (v : Value) (hb : BorA rest ps T x y) (h : RA g im w x v []) : RA gc imc w y v [] := by
  cases x <;> cases y <;> simp only [BorA] at hb
  · simp only [RA] at h ⊢; exact BorH_RH hgc hi hr hT _ _ v hb h
  · simp only [RA] at h ⊢
    obtain ⟨cs, h1, h2⟩ := h
    exact ⟨cs, h1, BorHs_RHs hgc hi hr hT _ _ cs hb h2⟩
theorem BorAs_RAs : ∀ (xs ys : List AV) (vs : List Value), BorAs rest ps T xs ys → RAs g im w xs vs [] → RAs gc imc w ys vs []
  | [], [], vs, _, h => by simpa only [RAs] using h
  | x :: xs, y :: ys, vs, hb, h => by
    simp only [RAs] at h ⊢
    obtain ⟨v, vs', f1, f2, rfl, hf, h1, h2⟩ := h
    obtain ⟨rfl, rfl⟩ := List.append_eq_nil_iff.1 hf.symm
    exact ⟨v, vs', [], [], rfl, rfl, BorA_RA hgc hi hr hT x y v hb.1 h1, BorAs_RAs xs ys vs' hb.2 h2⟩
  | [], _ :: _, _, hb, _ => hb.elim
  | _ :: _, [], _, hb, _ => hb.elim
end
def pick : List Nat → List (Nat × Ob) → Option (List Ob × List (Nat × Ob))
  | [], hp => some ([], hp)
  | i :: is, hp => match look i hp with
    | some o => match pick is (del i hp) with
      | some (os, r) => some (o :: os, r)
      | none => none
    | none => none
def HV.pu : HV → Bool
  | .c _ => true
  | _ => false
def Ob.pu : Ob → Bool
  | .arr .. => true
  | .box _ xs => xs.all HV.pu
  | .hrr _ _ xs => xs.all HV.pu
/-- A box without anything that is owned. -/
def Ob.bx : Ob → Bool
  | .arr _ _ xs => (xs.map HV.c).all HV.free
  | .box _ xs => xs.all HV.free
  | .hrr .. => false
theorem RHs_pu {g g' : Ga} {im : Im} {w : World} : ∀ (xs : List HV) (vs : List Value) (f : List Nat), xs.all HV.pu = true → RHs g im w xs vs f → RHs g' im w xs vs f
  | [], vs, f, _, h => h
  | x :: xs, vs, f, hp, h => by
    simp only [List.all_cons, Bool.and_eq_true] at hp
    obtain ⟨v, vs', f1, f2, rfl, rfl, h1, h2⟩ := h
    refine ⟨v, vs', f1, f2, rfl, rfl, ?_, RHs_pu xs vs' f2 hp.2 h2⟩
    cases x <;> first | exact h1 | exact absurd hp.1 (by simp [HV.pu])
theorem RO_pu {g g' : Ga} {im : Im} {w : World} {bi : BI} {o : Ob} {f : List Nat} (hp : o.pu = true) (h : RO g im w bi o f) : RO g' im w bi o f := by
  cases o with
  | arr ty e xs => exact h
  | box ty xs =>
    obtain ⟨b, cs, f', h4, rfl, h6, h8⟩ := h
    exact ⟨b, cs, f', h4, rfl, h6, RHs_pu xs cs f' hp h8⟩
  | hrr ty e xs =>
    obtain ⟨h1, h2, h3 | ⟨b, cur, f', us, h4, rfl, h6, h7, h8, h9⟩⟩ := h
    · exact ⟨h1, h2, .inl h3⟩
    · exact ⟨h1, h2, .inr ⟨b, cur, f', us, h4, rfl, h6, h7, RHs_pu xs us f' hp h8, h9⟩⟩
theorem RHs_free_fp {g : Ga} {im : Im} {w : World} : ∀ (xs : List HV) (vs : List Value) (f : List Nat), RHs g im w xs vs f → xs.all HV.free = true → f = []
  | [], vs, f, h, _ => h.2
  | x :: xs, vs, f, h, hf => by
    obtain ⟨v, vs', f1, f2, rfl, rfl, h1, h2⟩ := h
    simp only [List.all_cons, Bool.and_eq_true] at hf
    rw [RHs_free_fp xs vs' f2 h2 hf.2, List.append_nil]
    cases x with
    | c x => cases x <;> simp_all [RH, R, HV.free]
    | _ => exact h1.1
theorem pick_HR {g gc : Ga} {im : Im} {w : World} : ∀ (ps : List Nat) (k : Nat) (hp : List (Nat × Ob)) (fps : List Nat) (hin : List Ob) (rest : List (Nat × Ob)), pick ps hp = some (hin, rest) → HR g im w hp fps → fps.Nodup → hin.all Ob.pu = true →
    (∀ j id bi, nth ps j = some id → g id = some bi → gc (k + j) = some bi) →
    hin.length = ps.length ∧ ∃ fa fb, HR gc im w (num k hin) fa ∧ HR g im w rest fb ∧ (fa ++ fb).Nodup ∧ (∀ b ∈ fa ++ fb, b ∈ fps) ∧ (hin.all Ob.bx = true → ∀ b ∈ fa, ∃ id ∈ ps, ∃ bi, g id = some bi ∧ bi.a = some b)
  | [], k, hp, fps, hin, rest, h, hr, hn, _, _ => by
    simp only [pick, Option.some.injEq, Prod.mk.injEq] at h
    obtain ⟨rfl, rfl⟩ := h
    exact ⟨rfl, [], fps, rfl, hr, by simpa using hn, by simp, by simp⟩
  | i :: is, k, hp, fps, hin, rest, h, hr, hn, hpu, hgc => by
    simp only [pick] at h
    split at h
    · rename_i o ho
      split at h
      · rename_i os r hp'
        simp only [Option.some.injEq, Prod.mk.injEq] at h
        obtain ⟨rfl, rfl⟩ := h
        simp only [List.all_cons, Bool.and_eq_true] at hpu
        obtain ⟨bi, f1, f2, f3, hg, rfl, hro, hd⟩ := HR_del hr ho
        have hn' : (f1 ++ f3).Nodup := hn.sublist (List.Sublist.append (List.Sublist.refl _) (List.sublist_append_right _ _))
        obtain ⟨hl, fa, fb, h1, h2, h3, h4, h5⟩ := pick_HR is (k + 1) _ _ _ _ hp' hd hn' hpu.2 (fun j id bi h1 h2 => by have := hgc (j + 1) id bi h1 h2; rwa [show k + (j + 1) = k + 1 + j by omega] at this)
        refine ⟨by simp [hl], f2 ++ fa, fb, ⟨bi, f2, fa, hgc 0 i bi rfl hg, rfl, RO_pu hpu.1 hro, h1⟩, h2, ?_, ?_, ?_⟩
        · rw [List.append_assoc]
          rw [List.nodup_append] at hn ⊢
          obtain ⟨n1, n2, n3⟩ := hn
          rw [List.nodup_append] at n2
          refine ⟨n2.1, h3, fun a ha b hb => ?_⟩
          rcases List.mem_append.1 (h4 b hb) with hb1 | hb3
          · exact (n3 b hb1 a (List.mem_append_left _ ha)).symm
          · exact n2.2.2 a ha b hb3
        · intro b hb
          rw [List.append_assoc] at hb
          rcases List.mem_append.1 hb with hb | hb
          · exact List.mem_append_right _ (List.mem_append_left _ hb)
          · rcases List.mem_append.1 (h4 b hb) with hb | hb
            · exact List.mem_append_left _ hb
            · exact List.mem_append_right _ (List.mem_append_right _ hb)
        · intro hbx b hb
          simp only [List.all_cons, Bool.and_eq_true] at hbx
          rcases List.mem_append.1 hb with hb | hb
          · refine ⟨i, List.mem_cons_self, bi, hg, ?_⟩
            cases o with
            | arr ty e xs =>
              obtain ⟨q1, q2, ⟨q3, q4, q5, q6⟩ | ⟨b', cur, f', h4, rfl, h6, h7, h8⟩⟩ := hro
              · rw [q6] at hb; cases hb
              · obtain ⟨us, hus, _⟩ := RL_RHs (g := g) _ _ _ h8
                rw [RHs_free_fp _ us f' hus hbx.1] at hb
                simp at hb
                rw [hb, h4]
            | hrr => simp [Ob.bx] at hbx
            | box ty xs =>
              obtain ⟨b', cs, f', h4, rfl, h6, h8⟩ := hro
              rw [RHs_free_fp xs cs f' h8 hbx.1] at hb
              simp at hb
              rw [hb, h4]
          · obtain ⟨id, h6, h7⟩ := h5 hbx.2 b hb
            exact ⟨id, List.mem_cons_of_mem _ h6, h7⟩
      · cases h
    · cases h

def AS.evals (s : AS) : List Operand → Option (List AV)
  | [] => some []
  | x :: xs => match s.eval x, s.evals xs with
    | some y, some ys => some (y :: ys)
    | _, _ => none
theorem evals_RAs {E : Env} {g : Ga} {im : Im} {fps : List Nat} {s : AS} {a : Act} {w : World} (h : SimF E g im fps s a w) : ∀ {as : List Operand} {xs : List AV}, s.evals as = some xs → RAs g im w xs (as.map a.eval) []
  | [], xs, hx => by simp only [AS.evals, Option.some.injEq] at hx; subst hx; simp [RAs]
  | o :: os, xs, hx => by
    simp only [AS.evals] at hx
    split at hx
    · rename_i y ys hy hys
      injection hx with hx; subst hx
      simp only [RAs]
      exact ⟨_, _, [], [], rfl, rfl, h.eval hy, evals_RAs h hys⟩
    · cases hx
/-- The caller's name of the callee's object j. -/
def rho (ps : List Nat) (nx : Nat) (j : Nat) : Nat := match nth ps j with | some id => id | none => nx + (j - ps.length)
def AS.after (s : AS) (ps : List Nat) (rest : List (Nat × Ob)) (hout : List Ob) : AS := { fr := s.fr, hp := named (rho ps s.nx) 0 hout ++ rest, nx := s.nx + (hout.length - ps.length) }
/-- The operation is a call of a Go function with these operands. -/
def callOf (s : AS) : Op → Option (FuncId × List Operand)
  | .call c => match c.callee with
    | .value x => match s.eval x with
      | some (.h (.c (.fn f))) => some (f, c.args.toList)
      | _ => none
    | _ => none
  | _ => none
theorem nth_lt {α : Type} : ∀ {l : List α} {k : Nat} {x : α}, nth l k = some x → k < l.length
  | [], k, x, h => by simp [nth] at h
  | y :: l, 0, x, h => by simp
  | y :: l, k + 1, x, h => by have := nth_lt (l := l) (k := k) h; simp; omega
theorem callFunc_ok {P : Program} {f : FuncId} (h : FnOk P f) (args : Array Value) (w : World) : (callFunc f args).run P w = .ok (.enter f args) w := by
  obtain ⟨fn, h1, h2, h3⟩ := h
  simp only [callFunc, Sem.run_bind, run_program, Result.andThen_ok, h1]
  rw [if_neg (by rw [h2]; simp), if_neg (by rw [h3]; simp)]
  rfl
theorem es_call {E : Env} {s : AS} {o : Oper} {f : FuncId} {as : List Operand} {xs ys : List AV} {ps : List Nat} {hin : List Ob} {rest : List (Nat × Ob)} {T : Nat} {rt : List Nat} {Post : AV → List Ob → Prop} {Q : AS → Prop}
    (hop : callOf s o.op = some (f, as)) (hev : s.evals as = some xs) (hpk : pick ps s.hp = some (hin, rest)) (hpu : hin.all Ob.pu = true) (hb : BorAs rest ps T xs ys)
    (hc : AC E.P f ys hin rt Post) (hT : T ∉ rt) (hd : dok E.nt o.dst = true)
    (hQ : ∀ r hout, Post r hout → Q ((s.after ps rest hout).putd o.dst (r.ren (rho ps s.nx)))) : ES E s o (if hin.all Ob.bx then some ps else none) Q := by
  intro g im a w K QQ ⟨fps, hs⟩ hK
  obtain ⟨hfn, hcall⟩ := hc
  -- the operation's run
  have hrun : (execOp a.eval o).run E.P w = .ok (.enter f (as.map a.eval).toArray) w := by
    unfold callOf at hop
    split at hop
    · rename_i c ho
      split at hop
      · rename_i x hx
        split at hop
        · rename_i f' hf
          simp only [Option.some.injEq, Prod.mk.injEq] at hop
          obtain ⟨rfl, rfl⟩ := hop
          have e := hs.eval hf
          simp only [RA, RH, R] at e
          simp only [execOp, ho, resolve, hx, e.1, Deferred.ofValue, Sem.run_bind, Sem.run_pure, Result.andThen_ok, invoke]
          rw [callFunc_ok hfn]
          have : (#[] ++ c.args.map a.eval ++ #[] : Array Value) = (c.args.toList.map a.eval).toArray := Array.ext' (by simp)
          rw [this]
        · cases hop
      · cases hop
    · cases hop
  -- what the callee sees
  let gc : Ga := fun j => match nth ps j with | some id => g id | none => none
  have hgc : ∀ j id bi, nth ps j = some id → g id = some bi → gc j = some bi := fun j id bi h1 h2 => by simp only [gc, h1, h2]
  obtain ⟨hlen, fa, fb, hha, hhb, hnd, hsub, hbx⟩ := pick_HR (gc := gc) ps 0 s.hp fps hin rest hpk hs.hp hs.nd hpu (fun j id bi h1 h2 => by rw [Nat.zero_add]; exact hgc j id bi h1 h2)
  let imc : Im := fun t b => im t b ∨ (t = T ∧ b ∈ fb)
  have hi : ∀ t b, im t b → imc t b := fun t b h => .inl h
  have hfa : ∀ b ∈ fa, b ∈ fps := fun b hb => hsub b (List.mem_append_left _ hb)
  have hfb : ∀ b ∈ fb, b ∈ fps := fun b hb => hsub b (List.mem_append_right _ hb)
  rw [List.nodup_append] at hnd
  obtain ⟨hna, hnb, hdis⟩ := hnd
  have hargs := BorAs_RAs hgc hi hhb (fun b hb => .inr ⟨rfl, hb⟩) xs ys _ hb (evals_RAs hs hev)
  have hha' : HR gc imc w (num 0 hin) fa := HR_mono (fun _ _ h => h) (fun t b h => ⟨hi t b h, rfl⟩) _ _ (fun _ _ => rfl) hha
  have him : ∀ t b, imc t b → b < w.heap.size := fun t b h => h.elim (hs.il t b) fun h => hs.lt b (hfb b h.2)
  have hni : ∀ b ∈ fa, ∀ t, ¬ imc t b := fun b hb t h => h.elim (hs.ni b (hfa b hb) t) fun h => hdis b hb b h.2 rfl
  unfold Oper.wp
  rw [hrun]
  refine (hcall w gc imc _ fa hargs hha' hna (fun b hb => ⟨hs.lt b (hfa b hb), hni b hb⟩) him ?_ ?_).mono ?_
  · intro i hi
    simp only [gc]
    cases hn : nth ps i with
    | none => rfl
    | some id => have := nth_lt hn; omega
  · intro i bi b h1 h2
    simp only [gc] at h1
    split at h1
    · exact hs.gl _ bi b h1 h2
    · cases h1
  · rintro e w' ⟨r, hout, v, g', im', fps', hpost, rfl, hbk⟩
    -- the caller's state behind the call
    let g2 : Ga := fun i => if i < s.nx then g i else g' (i - s.nx + ps.length)
    let im2 : Im := fun t b => if t = T then im T b else im' t b
    have hlen' : ps.length ≤ hout.length := by rw [← hlen]; exact hbk.len
    have hg2 : ∀ i bi, g i = some bi → g2 i = some bi := fun i bi h => by
      have hlt : i < s.nx := by
        rcases Nat.lt_or_ge i s.nx with h' | h'
        · exact h'
        · rw [hs.gn i h'] at h; cases h
      simp only [g2, if_pos hlt]; exact h
    have hgr : ∀ j bi, g' j = some bi → g2 (rho ps s.nx j) = some bi := by
      intro j bi h
      unfold rho
      cases hn : nth ps j with
      | some id =>
        have hj := nth_lt hn
        rw [hbk.gx j (by omega)] at h
        simp only [gc, hn] at h
        exact hg2 id bi h
      | none =>
        have hj : ps.length ≤ j := by
          rcases Nat.lt_or_ge j ps.length with h' | h'
          · rw [nth_eq, List.getElem?_eq_getElem h'] at hn; cases hn
          · exact h'
        simp only [g2]
        rw [if_neg (by omega)]
        rw [show s.nx + (j - ps.length) - s.nx + ps.length = j by omega]
        exact h
    have hk : ∀ b, b < w.heap.size → b ∉ fa → w'.heap[b]? = w.heap[b]? := fun b h1 h2 => hbk.kp.block b h1 h2
    have himm : ∀ t b, im t b → im2 t b := fun t b h => by
      simp only [im2]; split
      · rename_i h'; rw [← h']; exact h
      · exact hbk.imm t b (hi t b h)
    have hsame : ∀ t b, im t b → im2 t b ∧ w'.heap[b]? = w.heap[b]? := fun t b h => ⟨himm t b h, hk b (hs.il t b h) fun hb => hs.ni b (hfa b hb) t h⟩
    have himn : ∀ t b, im2 t b → im t b ∨ (t = 0 ∧ w.heap.size ≤ b) := fun t b h => by
      simp only [im2] at h
      split at h
      · rename_i h'; rw [h']; exact .inl h
      · rename_i h'
        rcases hbk.imn t b h with (h | h) | h
        · exact .inl h
        · exact absurd h.1 h'
        · exact .inr h
    have hrt : ∀ t b, imr rt im' t b → im2 t b := fun t b h => by
      simp only [im2]
      rw [if_neg (fun e => hT (by rw [← e]; exact h.1))]
      exact h.2
    have hrest : HR g2 im2 w' rest fb := HR_mono hg2 hsame rest fb (fun b hb => hk b (hs.lt b (hfb b hb)) fun h => hdis b h b hb rfl) hhb
    have hcame : HR g2 im2 w' (named (rho ps s.nx) 0 hout) fps' := HR_named hgr hrt 0 hout fps' hbk.hp
    have hni2 : ∀ b, (∀ t, ¬ im t b) → b < w.heap.size → ∀ t, ¬ im2 t b := fun b h1 h2 t h => by
      rcases himn t b h with h | h
      · exact h1 t h
      · have := h.2; omega
    have hsim : SimF E g2 im2 (fps' ++ fb) ((s.after ps rest hout).putd o.dst (r.ren (rho ps s.nx))) (a.put o.dst v) w' := by
      refine SimF.putd (s := s.after ps rest hout) ?_ (dok_lt hd) (RA_map hgr hrt r v [] hbk.res)
      refine ⟨hs.dfr, hs.sz, ?_, ?_, ?_, ?_, ?_, ?_, ?_, ?_, ?_, ?_, ?_, ?_, ?_, ?_⟩
      · intro t x hx
        exact RA_mono hg2 hsame x _ [] (fun _ h => by cases h) (hs.fr t x hx)
      · exact (HR_append _ _ _).2 ⟨fps', fb, rfl, hcame, hrest⟩
      · rw [List.nodup_append]
        refine ⟨hbk.nd, hnb, fun x hx y hy => ?_⟩
        rintro rfl
        rcases (hbk.fp x hx).2.2 with h | h
        · have := hs.lt x (hfb x hy); omega
        · exact hdis x h x hy rfl
      · intro b hb
        rcases List.mem_append.1 hb with hb | hb
        · exact (hbk.fp b hb).1
        · exact Nat.lt_of_lt_of_le (hs.lt b (hfb b hb)) hbk.kp.size
      · intro b hb t h
        rcases List.mem_append.1 hb with hb | hb
        · simp only [im2] at h
          split at h
          · rename_i h'
            rcases (hbk.fp b hb).2.2 with h2 | h2
            · have := hs.il T b h; omega
            · exact hs.ni b (hfa b h2) T h
          · exact (hbk.fp b hb).2.1 t h
        · exact hni2 b (hs.ni b (hfb b hb)) (hs.lt b (hfb b hb)) t h
      · intro b hb
        rcases List.mem_append.1 hb with hb | hb
        · rcases (hbk.fp b hb).2.2 with h | h
          · exact .inl (Nat.le_trans hs.kp.size h)
          · exact hs.mine b (hfa b h)
        · exact hs.mine b (hfb b hb)
      · intro i hi
        simp only [AS.after] at hi
        simp only [g2]
        rw [if_neg (by omega)]
        exact hbk.gn _ (by omega)
      · intro i bi b h1 h2
        simp only [g2] at h1
        split at h1
        · exact Nat.lt_of_lt_of_le (hs.gl i bi b h1 h2) hbk.kp.size
        · exact hbk.gl _ bi b h1 h2
      · intro t b h
        rcases himn t b h with h' | h'
        · exact Nat.lt_of_lt_of_le (hs.il t b h') hbk.kp.size
        · simp only [im2] at h
          split at h
          · exact Nat.lt_of_lt_of_le (hs.il T b h) hbk.kp.size
          · exact hbk.iml t b h
      · exact hs.kp.trans_same hbk.kp.os hbk.kp.tape hbk.kp.output hbk.kp.size fun b hb => by
          by_cases h : b ∈ fa
          · exact .inl (hs.mine b (hfa b h))
          · exact .inr (hk b hb h)
      · show E.k ≤ s.nx + _
        have := hs.kn; omega
      · intro i hi
        have := hs.kn
        simp only [g2]
        rw [if_pos (by omega)]
        exact hs.g0 i hi
      · exact fun t b h => himm t b (hs.i0 t b h)
      · intro t b ht h
        rcases himn t b h with h | h
        · exact hs.i1 t b ht h
        · exact .inr ⟨h.1, Nat.le_trans hs.kp.size h.2⟩
    refine hK g2 im2 _ _ w' (· ∈ fa) ⟨_, hsim⟩ (hQ r hout hpost) ⟨?_, ?_, himm, himn, hbk.kp.size, fun b hb t h => hs.ni b (hfa b hb) t h, fun b hb => ?_⟩ ?_
    · intro i hi
      simp only [g2, if_pos hi]
    · intro i bi b hi h1 h2
      simp only [g2] at h1
      rw [if_neg (by omega)] at h1
      exact hbk.gf _ bi b (by omega) h1 h2
    · by_cases h : b ∈ fa
      · exact .inl h
      · exact .inr (hk b hb h)
    · intro m hm b hb
      split at hm
      · rename_i hx
        injection hm with hm
        subst hm
        exact hbx hx b hb
      · cases hm
end Go.Proofs.Ythmgfgiaagkdeaa
/- The engine, part g: arithmetic, places of elements, loads out of rows, cuts. -/
namespace Go.Proofs.Ythmgfgiaagkdeaa
open Go.RowKit

def arI : BinOp → Int → Int → Option Int
  | .add, a, b => some (a + b)
  | .sub, a, b => some (a - b)
  | .mul, a, b => some (a * b)
  | _, _, _ => none
section
variable {E : Env} {te : TE} {os : Option (List Nat)} {fl : Bool} {s : AS}
/-- A sum, a difference, a product that fits. -/
theorem ps_ar {op : BinOp} {t t' : TypeId} {x y : Operand} {a b r : Int} (hx : s.eval x = some (.h (.c (.int .i64 a)))) (hy : s.eval y = some (.h (.c (.int .i64 b)))) (hr : arI op a b = some r)
    (h1 : -9223372036854775808 ≤ r) (h2 : r ≤ 9223372036854775807) : PS E os fl s (.binOp op t x y t') (.h (.c (.int .i64 r))) := by
  intro g im ac w M n0 ⟨fps, hs⟩ hI
  have e1 := RA_int (hs.eval hx)
  have e2 := RA_int (hs.eval hy)
  refine ⟨_, RA_mkInt _ _, fun w' _ o ho => ?_⟩
  have hw := IntWalk.i64_in r ⟨h1, h2⟩
  cases op <;> simp [arI] at hr <;> subst hr <;> simp [execOp, ho, e1, e2, eqGuard, binOp, Op.intArith, hw]
/-- A quotient of numbers that are not below 0. -/
theorem ps_quo {t t' : TypeId} {x y : Operand} {a b : Int} (hx : s.eval x = some (.h (.c (.int .i64 a)))) (hy : s.eval y = some (.h (.c (.int .i64 b)))) (h0 : 0 ≤ a) (h1 : 0 < b) (h2 : a ≤ 9223372036854775807) :
    PS E os fl s (.binOp .quo t x y t') (.h (.c (.int .i64 (a / b)))) := by
  intro g im ac w M n0 ⟨fps, hs⟩ hI
  have e1 := RA_int (hs.eval hx)
  have e2 := RA_int (hs.eval hy)
  refine ⟨_, RA_mkInt _ _, fun w' _ o ho => ?_⟩
  have hb : b ≠ 0 := by omega
  have hd : a.tdiv b = a / b := Int.tdiv_eq_ediv_of_nonneg h0
  have hle : a / b ≤ a := Int.ediv_le_self b h0
  have hge : 0 ≤ a / b := Int.ediv_nonneg h0 (by omega)
  have hw := IntWalk.i64_in (a / b) ⟨by omega, by omega⟩
  simp [execOp, ho, e1, e2, eqGuard, binOp, Op.intDiv, hb, hd, hw]
theorem ps_rem {t t' : TypeId} {x y : Operand} {a b : Int} (hx : s.eval x = some (.h (.c (.int .i64 a)))) (hy : s.eval y = some (.h (.c (.int .i64 b)))) (h0 : 0 ≤ a) (h1 : 0 < b) :
    PS E os fl s (.binOp .rem t x y t') (.h (.c (.int .i64 (a % b)))) := by
  intro g im ac w M n0 ⟨fps, hs⟩ hI
  have e1 := RA_int (hs.eval hx)
  have e2 := RA_int (hs.eval hy)
  refine ⟨_, RA_mkInt _ _, fun w' _ o ho => ?_⟩
  have hb : b ≠ 0 := by omega
  have hd : a.tmod b = a % b := Int.tmod_eq_emod_of_nonneg h0
  simp [execOp, ho, e1, e2, eqGuard, binOp, Op.intDiv, hb, hd]
/-- A byte as an int. -/
theorem ps_conv {src dst : TypeId} {x : Operand} {k : IntKind} {a : Int} {inf inf' : TInf} (hte : teOk E.P te = true) (hx : s.eval x = some (.h (.c (.int k a)))) (hs1 : look src te = some inf) (hd1 : look dst te = some inf') (hd2 : inf'.d = .int .i64)
    (h0 : -9223372036854775808 ≤ a) (h1 : a ≤ 9223372036854775807) : PS E os fl s (.convert src dst x) (.h (.c (.int .i64 a))) := by
  intro g im ac w M n0 ⟨fps, hs⟩ hI
  have e1 := RA_int (hs.eval hx)
  refine ⟨_, RA_mkInt _ _, fun w' _ o ho => ?_⟩
  have hw := IntWalk.i64_in a ⟨h0, h1⟩
  have hu := (teOk_look hte hd1).und
  have hu' := (teOk_look hte hs1).und
  rw [hd2] at hu
  cases hp : E.P.underlying dst with
  | none => simp [TI.is, hp] at hu
  | some d =>
    cases d <;> simp [TI.is, hp] at hu
    subst hu
    cases hp' : E.P.underlying src with
    | none => rw [hp'] at hu'; cases hd : inf.d <;> simp [TI.is, hd] at hu'
    | some d' =>
      simp [execOp, ho, e1, convert, run_underlying hp, run_underlying hp', Conv.intToInt, hw]
theorem slice_und {P : Program} (hte : teOk P te = true) {t e sz b' : Nat} {zs : List CV} (ht : look t te = some ⟨.slice e, sz, b', zs⟩) : P.underlying t = some (.slice e) := by
  have hu := und_of hte ht
  cases hp : P.underlying t with
  | none => simp [TI.is, hp] at hu
  | some d =>
    cases d <;> simp [TI.is, hp] at hu
    rw [hu]
/-- The place of an element of a slice that is only read. -/
theorem ps_ix {t e : Nat} {sz b' : Nat} {zs : List CV} {x ix : Operand} {tg n : Nat} {xs : List CV} {i : Int} {inf : TInf} (k : Nat) {y : CV} {ys : List CV} (hte : teOk E.P te = true)
    (hx : s.eval x = some (.h (.c (.rd tg n xs)))) (hi : s.eval ix = some (.h (.c (.int .i64 i)))) (hk : i = (k : Int)) (hn : k < n) (ht : look t te = some ⟨.slice e, sz, b', zs⟩) (he : look e te = some inf)
    (hd : xs.drop (k * inf.sz) = y :: ys) : PS E os fl s (.indexAddr t x ix) (.h (.rp tg (y :: ys))) := by
  intro g im ac w M n0 ⟨fps, hs⟩ hI
  have hv := hs.eval hx
  have e2 := RA_int (hs.eval hi)
  simp only [RA, RH, R] at hv
  obtain ⟨_, A, c, e1, h3, h4, h5⟩ := hv
  subst hk
  rcases h5 with h5 | ⟨b, o, hA, him, hr⟩
  · rw [h5] at hd; simp at hd
  · obtain ⟨f', hf', hr'⟩ := RL_drop xs (k * inf.sz) o [] hr
    rw [hd] at hr'
    refine ⟨.pointer (some ⟨b, o + k * inf.sz, none⟩), ?_, fun w' _ oo ho => ?_⟩
    · simp only [RA, RH]
      exact ⟨trivial, b, _, rfl, him, RL_nofp hr' hf'⟩
    · have hu := slice_und hte ht
      have hs' := size_of hte he w'
      simp [execOp, ho, e1, e2, hA, Instr.indexAt, asIntOf, run_underlying hu, hs', hn, addr_add]
/-- The place of an element of a slice that is owned. -/
theorem ps_ixo {t e : Nat} {sz b' : Nat} {zs : List CV} {x ix : Operand} {id j n : Nat} {ty e' : Nat} {xs : List CV} {i : Int} {inf : TInf} (k : Nat) (hte : teOk E.P te = true)
    (hx : s.eval x = some (.h (.sl id j n))) (hi : s.eval ix = some (.h (.c (.int .i64 i)))) (hk : i = (k : Int)) (hn : k < n) (ht : look t te = some ⟨.slice e, sz, b', zs⟩) (he : look e te = some inf)
    (ho : look id s.hp = some (.arr ty e' xs)) (hes : e' = inf.sz) : PS E os fl s (.indexAddr t x ix) (.h (.ptr id ((j + k) * inf.sz))) := by
  intro g im ac w M n0 ⟨fps, hs⟩ hI
  have hv := hs.eval hx
  have e2 := RA_int (hs.eval hi)
  simp only [RA, RH] at hv
  obtain ⟨_, bi, hg, h3, h4, e1⟩ := hv
  subst hk hes
  obtain ⟨bi', f1, f2, f3, hg', hf, hro⟩ := look_HR hs.hp ho
  obtain rfl : bi = bi' := by rw [hg] at hg'; exact Option.some.inj hg'
  obtain ⟨h5, h6, ⟨_, _, h8, _⟩ | ⟨b, cur, f, h7, _⟩⟩ := hro
  · omega
  · refine ⟨.pointer (some ⟨b, (j + k) * inf.sz, none⟩), ?_, fun w' _ oo ho => ?_⟩
    · simp only [RA, RH]
      exact ⟨trivial, bi, b, hg, h7, rfl⟩
    · have hu := slice_und hte ht
      have hs' := size_of hte he w'
      rw [h7, h6] at e1
      simp [execOp, ho, e1, slv, e2, Instr.indexAt, asIntOf, run_underlying hu, hs', hn, addr_add, Nat.add_mul]
/-- A load out of a row that is owned. -/
theorem ps_ldo {t : Nat} {x : Operand} {id o : Nat} {ty e : Nat} {xs zs : List CV} {inf : TInf} {v : AV} (hte : teOk E.P te = true)
    (hx : s.eval x = some (.h (.ptr id o))) (ho : look id s.hp = some (.arr ty e xs)) (hl : look t te = some inf) (hid : okid os id = true) (hd : xs.drop o = zs)
    (h : loadH inf ((zs.take inf.sz).map HV.c) = some v) : PS E os fl s (.load t x) v := by
  intro g im ac w M n0 ⟨fps, hs⟩ hI
  have hv := hs.eval hx
  simp only [RA, RH] at hv
  obtain ⟨_, bi, b, hg, hba, e1⟩ := hv
  obtain ⟨bi', f1, f2, f3, hg', hf, hro⟩ := look_HR hs.hp ho
  obtain rfl : bi = bi' := by rw [hg] at hg'; exact Option.some.inj hg'
  obtain ⟨h5, h6, ⟨h7, _⟩ | ⟨b', cur, f, h7, rfl, h9, h10, h11⟩⟩ := hro
  · rw [hba] at h7; cases h7
  · obtain rfl : b = b' := by rw [hba] at h7; exact Option.some.inj h7
    obtain ⟨g1, hg1, hr1⟩ := RL_drop xs o 0 f h11
    rw [hd] at hr1
    simp only [Nat.zero_add] at hr1
    obtain ⟨g2, hg2, hr2⟩ := RL_take zs inf.sz o g1 hr1
    obtain ⟨us, hus, hcell⟩ := RL_RHs (g := g) _ _ _ hr2
    obtain ⟨h1, h2⟩ := loadH_RA (teOk_look hte hl).one h hus
    refine ⟨_, h2, fun w' hw' oo ho' => ?_⟩
    have hsame := hw' b (hI.old id hid bi b hg hba).1 (hI.old id hid bi b hg hba).2
    have hrun := run_load_cells (P := E.P) hte hl w' b o (us.take inf.sz) h1 (fun j u hu => by
      rw [cell_of_same hsame]
      rw [List.getElem?_take] at hu
      split at hu
      · exact hcell j u hu
      · cases hu)
    simp only [execOp, ho', e1, Sem.run_bind, hrun, Result.andThen_ok, Sem.run_pure]

def bnd (s : AS) (d : Nat) : Option Operand → Option Int
  | none => some (d : Int)
  | some x => match s.eval x with
    | some (.h (.c (.int .i64 i))) => some i
    | _ => none
theorem run_cut {P : Program} (hte : teOk P te = true) {t e sz b' : Nat} {zs : List CV} (ht : look t te = some ⟨.slice e, sz, b', zs⟩) {inf : TInf} (he : look e te = some inf) (w : World) (A : Option Addr) (n c l h : Nat) (lo hi : Option Value)
    (hlo : lo = none ∧ l = 0 ∨ lo = some (.int .i64 (l : Int))) (hhi : hi = none ∧ h = n ∨ hi = some (.int .i64 (h : Int))) (h1 : l ≤ h) (h2 : h ≤ c) (h3 : n ≤ c) :
    (Instr.sliceAt t (.slice A n c) lo hi none).run P w = .ok (.slice (if c = l then A else A.map (·.add (l * inf.sz))) (h - l) (c - l)) w := by
  have hu := slice_und hte ht
  have hs := size_of hte he w
  rcases hlo with ⟨rfl, rfl⟩ | rfl <;> rcases hhi with ⟨rfl, rfl⟩ | rfl <;>
    simp [Instr.sliceAt, Instr.slice, run_underlying hu, Instr.sliceBounds, Instr.sliceBound, asIntOf, hs, h1, h2]
/-- A cut of a slice that is only read. -/
theorem ps_cut {t e : Nat} {sz b' : Nat} {zs : List CV} {x : Operand} {lo hi : Option Operand} {tg n : Nat} {xs ys : List CV} {il ih : Int} {inf : TInf} (l h : Nat) (hte : teOk E.P te = true)
    (hx : s.eval x = some (.h (.c (.rd tg n xs)))) (hlo : bnd s 0 lo = some il) (hhi : bnd s n hi = some ih) (hl : il = (l : Int)) (hh : ih = (h : Int)) (h1 : l ≤ h) (h2 : h ≤ n) (ht : look t te = some ⟨.slice e, sz, b', zs⟩) (he : look e te = some inf)
    (hd : (xs.drop (l * inf.sz)).take ((h - l) * inf.sz) = ys) : PS E os fl s (.slice t x lo hi none) (.h (.c (.rd tg (h - l) ys))) := by
  intro g im ac w M n0 ⟨fps, hs⟩ hI
  have hv := hs.eval hx
  simp only [RA, RH, R] at hv
  obtain ⟨_, A, c, e1, h3, h4, h5⟩ := hv
  subst hl hh
  have key : ∀ w' : World, (Instr.sliceAt t (.slice A n c) (lo.map ac.eval) (hi.map ac.eval) none).run E.P w' = .ok (.slice (if c = l then A else A.map (·.add (l * inf.sz))) (h - l) (c - l)) w' := by
    intro w'
    refine run_cut hte ht he w' A n c l h _ _ ?_ ?_ h1 (by omega) h3
    · cases lo with
      | none => simp only [bnd, Option.some.injEq] at hlo; exact .inl ⟨rfl, by omega⟩
      | some o =>
        simp only [bnd] at hlo
        split at hlo
        · rename_i hi'
          injection hlo with hlo
          subst hlo
          exact .inr (by simp [RA_int (hs.eval hi')])
        · cases hlo
    · cases hi with
      | none => simp only [bnd, Option.some.injEq] at hhi; exact .inl ⟨rfl, by omega⟩
      | some o =>
        simp only [bnd] at hhi
        split at hhi
        · rename_i hi'
          injection hhi with hhi
          subst hhi
          exact .inr (by simp [RA_int (hs.eval hi')])
        · cases hhi
  refine ⟨_, ?_, fun w' _ oo ho => by simp only [execOp, ho, e1, Sem.run_bind, Option.map_none, key w', Result.andThen_ok, Sem.run_pure]; rfl⟩
  simp only [RA, RH, R]
  refine ⟨trivial, _, _, rfl, by omega, by omega, ?_⟩
  by_cases hys : ys = []
  · exact .inl hys
  · right
    have hlt : l < h := by
      rcases Nat.lt_or_ge l h with h' | h'
      · exact h'
      · exfalso; apply hys; rw [← hd, show h - l = 0 by omega]; simp
    rcases h5 with h5 | ⟨b, o, hA, him, hr⟩
    · exfalso; apply hys; rw [← hd, h5]; simp
    · obtain ⟨f', hf', hr'⟩ := RL_drop xs (l * inf.sz) o [] hr
      obtain ⟨f'', hf'', hr''⟩ := RL_take _ ((h - l) * inf.sz) _ _ hr'
      rw [hd] at hr''
      refine ⟨b, o + l * inf.sz, ?_, him, RL_nofp hr'' (hf''.trans hf')⟩
      rw [if_neg (by omega), hA]
      simp [addr_add]
end
end Go.Proofs.Ythmgfgiaagkdeaa
/- The engine, part h: new variables, stores. -/
namespace Go.Proofs.Ythmgfgiaagkdeaa
open Go.RowKit

def gup (g : Ga) (i : Nat) (bi : BI) : Ga := fun j => if j = i then some bi else g j
theorem gup_old {g : Ga} {nx : Nat} {bi : BI} (h : ∀ i, nx ≤ i → g i = none) : ∀ i b, g i = some b → gup g nx bi i = some b := by
  intro i b hi
  unfold gup
  rw [if_neg (fun e => by rw [e, h nx (Nat.le_refl _)] at hi; cases hi)]
  exact hi
/-- A new block becomes a new object; some objects may go into it. -/
theorem SimF.new {E : Env} {g : Ga} {im : Im} {fps : List Nat} {s : AS} {a : Act} {w w' : World} (hs : SimF E g im fps s a w) {hp0 : List (Nat × Ob)} {fx f0 : List Nat} (h0 : HR g im w hp0 f0) (hn : (fx ++ f0).Nodup) (hsub : ∀ b ∈ fx ++ f0, b ∈ fps)
    (bi : BI) (o : Ob) (hk : ∀ b, b < w.heap.size → w'.heap[b]? = w.heap[b]?) (hsz : w'.heap.size = w.heap.size + 1) (hos : w'.os = w.os) (htp : w'.tape = w.tape) (hou : w'.output = w.output)
    (hba : bi.a = some w.heap.size) (hro : RO (gup g s.nx bi) im w' bi o (w.heap.size :: fx)) :
    SimF E (gup g s.nx bi) im ((w.heap.size :: fx) ++ f0) { fr := s.fr, hp := (s.nx, o) :: hp0, nx := s.nx + 1 } a w' := by
  have hg := gup_old (bi := bi) hs.gn
  have hi : ∀ t b, im t b → im t b ∧ w'.heap[b]? = w.heap[b]? := fun t b hb => ⟨hb, hk b (hs.il t b hb)⟩
  have hlt : ∀ b ∈ fx ++ f0, b < w.heap.size := fun b hb => hs.lt b (hsub b hb)
  refine ⟨hs.dfr, hs.sz, ?_, ?_, ?_, ?_, ?_, ?_, ?_, ?_, ?_, ?_, ?_, ?_, hs.i0, hs.i1⟩
  · intro t x hx
    exact RA_mono hg hi x _ [] (fun _ h => by cases h) (hs.fr t x hx)
  · refine ⟨bi, w.heap.size :: fx, f0, by simp [gup], rfl, hro, ?_⟩
    exact HR_mono hg hi hp0 f0 (fun b hb => hk b (hlt b (List.mem_append_right _ hb))) h0
  · rw [List.cons_append, List.nodup_cons]
    exact ⟨fun h => by have := hlt _ h; omega, hn⟩
  · intro b hb
    rcases List.mem_cons.1 hb with rfl | hb
    · omega
    · have := hlt b hb; omega
  · intro b hb t h
    rcases List.mem_cons.1 hb with rfl | hb
    · have := hs.il t _ h; omega
    · exact hs.ni b (hsub b hb) t h
  · intro b hb
    rcases List.mem_cons.1 hb with rfl | hb
    · exact .inl hs.kp.size
    · exact hs.mine b (hsub b hb)
  · intro i hi'
    simp only [gup]
    rw [if_neg (by simp only at hi'; omega)]
    exact hs.gn i (by simp only at hi'; omega)
  · intro i bi' b h1 h2
    simp only [gup] at h1
    split at h1
    · injection h1 with h1
      subst h1
      rw [hba] at h2
      injection h2 with h2
      omega
    · have := hs.gl i bi' b h1 h2; omega
  · intro t b h
    have := hs.il t b h; omega
  · exact hs.kp.trans_same hos htp hou (by omega) fun b hb => .inr (hk b hb)
  · have := hs.kn
    simp only
    omega
  · intro i hi'
    have := hs.kn
    simp only [gup]
    rw [if_neg (by omega)]
    exact hs.g0 i hi'
theorem Chg.new {g : Ga} {im : Im} {w w' : World} {nx : Nat} {bi : BI} (h : ∀ i, nx ≤ i → g i = none) (hba : bi.a = some w.heap.size) (hk : ∀ b, b < w.heap.size → w'.heap[b]? = w.heap[b]?) (hsz : w'.heap.size = w.heap.size + 1) :
    Chg g (gup g nx bi) im im w w' nx (fun _ => False) := by
  refine ⟨?_, ?_, fun _ _ h => h, fun _ _ h => .inl h, by omega, fun _ h => h.elim, fun b hb => .inr (hk b hb)⟩
  · intro i hi
    simp only [gup]
    rw [if_neg (by omega)]
  · intro i bi' b hi h1 h2
    simp only [gup] at h1
    split at h1
    · injection h1 with h1
      subst h1
      rw [hba] at h2
      injection h2 with h2
      left; omega
    · rw [h i hi] at h1; cases h1

theorem areV_RHs {g : Ga} {im : Im} {w : World} : ∀ (zs : List CV) (vs : List Value), CV.areV zs vs = true → RHs g im w (zs.map HV.c) vs []
  | [], [], _ => ⟨rfl, rfl⟩
  | x :: xs, v :: vs, h => by
    simp only [CV.areV, Bool.and_eq_true] at h
    exact ⟨v, vs, [], [], rfl, rfl, isV_R h.1, areV_RHs xs vs h.2⟩
  | [], _ :: _, h => by simp [CV.areV] at h
  | _ :: _, [], h => by simp [CV.areV] at h
theorem areV_length : ∀ (zs : List CV) (vs : List Value), CV.areV zs vs = true → zs.length = vs.length
  | [], [], _ => rfl
  | x :: xs, v :: vs, h => by
    simp only [CV.areV, Bool.and_eq_true] at h
    simp [areV_length xs vs h.2]
  | [], _ :: _, h => by simp [CV.areV] at h
  | _ :: _, [], h => by simp [CV.areV] at h
def cellsA : AV → Option (List HV)
  | .h x => some [x]
  | .agg xs => some xs
  | _ => none
theorem RH_cells {g : Ga} {im : Im} {w : World} {x : HV} {v : Value} {f : List Nat} (h : RH g im w x v f) : v.cells = #[v] := by
  cases x with
  | c x =>
    simp only [RH] at h
    cases x <;> simp only [R] at h
    · rw [h.1]; rfl
    · rw [h.1]; rfl
    · rw [h.1]; rfl
    · obtain ⟨_, A, c, rfl, _⟩ := h; rfl
    · rcases h with ⟨rfl, _⟩ | ⟨b, c, cur, f, rfl, _⟩ <;> rfl
    · rw [h.1]; rfl
  | sl id i n => obtain ⟨_, bi, _, _, _, rfl⟩ := h; rfl
  | sw id i n => obtain ⟨_, bi, A, c, _, rfl, _⟩ := h; rfl
  | ptr id o => obtain ⟨_, bi, b, _, _, rfl⟩ := h; rfl
  | rp t xs => obtain ⟨_, b, o, rfl, _⟩ := h; rfl
theorem RH_one {g : Ga} {im : Im} {w : World} {x : HV} {v : Value} {f : List Nat} (h : RH g im w x v f) : v.oneCell' = true := by
  cases x with
  | c x => exact R_one h
  | sl id i n => obtain ⟨_, bi, _, _, _, rfl⟩ := h; rfl
  | sw id i n => obtain ⟨_, bi, A, c, _, rfl, _⟩ := h; rfl
  | ptr id o => obtain ⟨_, bi, b, _, _, rfl⟩ := h; rfl
  | rp t xs => obtain ⟨_, b, o, rfl, _⟩ := h; rfl
theorem RHs_one {g : Ga} {im : Im} {w : World} : ∀ (xs : List HV) (vs : List Value) (f : List Nat), RHs g im w xs vs f → ∀ v ∈ vs, v.oneCell' = true
  | [], vs, f, h => by rw [h.1]; simp
  | x :: xs, vs, f, h => by
    obtain ⟨v, vs', f1, f2, rfl, rfl, h1, h2⟩ := h
    intro u hu
    rcases List.mem_cons.1 hu with rfl | hu
    · exact RH_one h1
    · exact RHs_one xs vs' f2 h2 u hu
theorem RA_cells {g : Ga} {im : Im} {w : World} {x : AV} {v : Value} {xs : List HV} (h : RA g im w x v []) (hx : cellsA x = some xs) : RHs g im w xs v.cells.toList [] := by
  cases x <;> simp only [cellsA, Option.some.injEq, reduceCtorEq] at hx
  · subst hx
    simp only [RA] at h
    rw [RH_cells h]
    exact ⟨v, [], [], [], rfl, rfl, h, rfl, rfl⟩
  · subst hx
    simp only [RA] at h
    obtain ⟨cs, rfl, h⟩ := h
    simpa [Value.cells] using h
section
variable {E : Env} {te : TE} {s : AS} {o : Oper} {Q : AS → Prop}
/-- A new variable with these cells. -/
theorem new_box {g : Ga} {im : Im} {fps : List Nat} {a : Act} {w : World} (hs : SimF E g im fps s a w) (ty : TypeId) {xs : List HV} {cs : List Value} (hr : RHs g im w xs cs []) :
    SimF E (gup g s.nx ⟨some w.heap.size, 0, ty, 0⟩) im (w.heap.size :: fps) { fr := s.fr, hp := (s.nx, .box ty xs) :: s.hp, nx := s.nx + 1 } a (w.alloc (.cells cs.toArray ty)) := by
  have hk : ∀ b, b < w.heap.size → (w.alloc (.cells cs.toArray ty)).heap[b]? = w.heap[b]? := fun b hb => Below.heap_alloc w _ b hb
  have := hs.new (fx := []) (w' := w.alloc (.cells cs.toArray ty)) hs.hp (by simpa using hs.nd) (by simp) ⟨some w.heap.size, 0, ty, 0⟩ (.box ty xs) hk (by simp) rfl rfl rfl rfl
    ⟨w.heap.size, cs, [], rfl, rfl, heap_alloc_new w _, RHs_mono (gup_old hs.gn) (fun t b hb => ⟨hb, hk b (hs.il t b hb)⟩) xs cs [] (fun _ h => by cases h) hr⟩
  simpa using this
theorem es_alloc {ty : TypeId} {inf : TInf} (hte : teOk E.P te = true) (hop : o.op = .alloc ty) (ht : look ty te = some inf) (hd : dok E.nt o.dst = true)
    (hQ : Q (({ fr := s.fr, hp := (s.nx, .box ty (inf.zs.map HV.c)) :: s.hp, nx := s.nx + 1 } : AS).putd o.dst (.h (.ptr s.nx 0)))) : ES E s o (some []) Q := by
  intro g im a w K QQ ⟨fps, hs⟩ hK
  obtain ⟨⟨i, z, h1, h2, h3, h4, h5, h6⟩, h7⟩ := teOk_look hte ht
  have hr : RHs g im w (inf.zs.map HV.c) z.cells.toList [] := areV_RHs _ _ h5
  have hn := new_box hs ty hr
  simp only [Array.toArray_toList] at hn
  have hrun : (execOp a.eval o).run E.P w = .ok (.value (.pointer (some ⟨w.heap.size, 0, none⟩))) (w.alloc (.cells z.cells ty)) := by
    simp [execOp, hop, Instr.alloc, zeroValue, typeInfo, h1, h4, newVar, newRow]
  unfold Oper.wp
  rw [hrun]
  refine hK _ im _ _ _ _ ⟨_, hn.putd (dok_lt hd) (v := .pointer (some ⟨w.heap.size, 0, none⟩)) ?_⟩ hQ (Chg.new hs.gn rfl (fun b hb => Below.heap_alloc w _ b hb) (by simp)) fun _ _ _ h => h.elim
  simp only [RA, RH]
  exact ⟨trivial, ⟨some w.heap.size, 0, ty, 0⟩, w.heap.size, by simp [gup], rfl, rfl⟩
theorem es_box {ty : TypeId} {x : Operand} {y : AV} {xs : List HV} (hop : o.op = .box ty x) (hx : s.eval x = some y) (hc : cellsA y = some xs) (hd : dok E.nt o.dst = true)
    (hQ : Q (({ fr := s.fr, hp := (s.nx, .box ty xs) :: s.hp, nx := s.nx + 1 } : AS).putd o.dst (.h (.ptr s.nx 0)))) : ES E s o (some []) Q := by
  intro g im a w K QQ ⟨fps, hs⟩ hK
  have hr := RA_cells (hs.eval hx) hc
  have hn := new_box hs ty hr
  simp only [Array.toArray_toList] at hn
  have hrun : (execOp a.eval o).run E.P w = .ok (.value (.pointer (some ⟨w.heap.size, 0, none⟩))) (w.alloc (.cells (a.eval x).cells ty)) := by
    simp [execOp, hop, Instr.box, newVar, newRow]
  unfold Oper.wp
  rw [hrun]
  refine hK _ im _ _ _ _ ⟨_, hn.putd (dok_lt hd) (v := .pointer (some ⟨w.heap.size, 0, none⟩)) ?_⟩ hQ (Chg.new hs.gn rfl (fun b hb => Below.heap_alloc w _ b hb) (by simp)) fun _ _ _ h => h.elim
  simp only [RA, RH]
  exact ⟨trivial, ⟨some w.heap.size, 0, ty, 0⟩, w.heap.size, by simp [gup], rfl, rfl⟩
end

def setL {α : Type} (xs : List α) (o : Nat) (ys : List α) : List α := xs.take o ++ (ys ++ xs.drop (o + ys.length))
theorem RHs_append {g : Ga} {im : Im} {w : World} : ∀ (xs : List HV) (vs : List Value) (f : List Nat) (ys : List HV) (us : List Value) (f' : List Nat), RHs g im w xs vs f → RHs g im w ys us f' → RHs g im w (xs ++ ys) (vs ++ us) (f ++ f')
  | [], vs, f, ys, us, f', h, h' => by obtain ⟨rfl, rfl⟩ := h; exact h'
  | x :: xs, vs, f, ys, us, f', h, h' => by
    obtain ⟨v, vs', f1, f2, rfl, rfl, h1, h2⟩ := h
    exact ⟨v, vs' ++ us, f1, f2 ++ f', rfl, by simp, h1, RHs_append xs vs' f2 ys us f' h2 h'⟩
theorem RHs_takes {g : Ga} {im : Im} {w : World} : ∀ (xs : List HV) (vs : List Value) (f : List Nat) (k : Nat), RHs g im w xs vs f → ∃ f1 f2, f = f1 ++ f2 ∧ RHs g im w (xs.take k) (vs.take k) f1 ∧ RHs g im w (xs.drop k) (vs.drop k) f2
  | xs, vs, f, 0, h => ⟨[], f, rfl, by simp [RHs], by simpa using h⟩
  | [], vs, f, k + 1, h => by obtain ⟨rfl, rfl⟩ := h; exact ⟨[], [], rfl, by simp [RHs], by simp [RHs]⟩
  | x :: xs, vs, f, k + 1, h => by
    obtain ⟨v, vs', f1, f2, rfl, rfl, h1, h2⟩ := h
    obtain ⟨fa, fb, rfl, h3, h4⟩ := RHs_takes xs vs' f2 k h2
    exact ⟨f1 ++ fa, fb, by simp, ⟨v, vs'.take k, f1, fa, by simp, rfl, h1, h3⟩, by simpa using h4⟩
theorem RHs_setL {g : Ga} {im : Im} {w : World} {xs ys : List HV} {vs us : List Value} {f : List Nat} {o : Nat} (h : RHs g im w xs vs f) (h' : RHs g im w ys us []) : ∃ f', f'.Sublist f ∧ RHs g im w (setL xs o ys) (vs.take o ++ us ++ vs.drop (o + us.length)) f' := by
  obtain ⟨f1, f2, rfl, h1, h2⟩ := RHs_takes xs vs f o h
  have hl := RHs_length _ _ _ h'
  obtain ⟨f3, f4, hf, h3, h4⟩ := RHs_takes xs vs (f1 ++ f2) (o + ys.length) h
  obtain ⟨f5, f6, rfl, h5, h6⟩ := RHs_takes (xs.drop o) (vs.drop o) f2 ys.length h2
  refine ⟨f1 ++ ([] ++ f6), ?_, ?_⟩
  · exact List.Sublist.append (List.Sublist.refl _) (by simp)
  · unfold setL
    rw [List.append_assoc]
    rw [List.drop_drop, List.drop_drop] at h6
    rw [hl]
    exact RHs_append _ _ _ _ _ _ h1 (RHs_append _ _ _ _ _ _ h' h6)
/-- An object has been written. -/
theorem SimF.upd {E : Env} {g : Ga} {im : Im} {fps : List Nat} {s : AS} {a : Act} {w w' : World} (hs : SimF E g im fps s a w) {id : Nat} {ob ob' : Ob} (hl : look id s.hp = some ob) {bi : BI} {b : Nat} (hg : g id = some bi) (hb : bi.a = some b)
    (hk : ∀ c, c ≠ b → w'.heap[c]? = w.heap[c]?) (hsz : w'.heap.size = w.heap.size) (hos : w'.os = w.os) (htp : w'.tape = w.tape) (hou : w'.output = w.output)
    (hro : ∀ f, RO g im w bi ob f → (∀ c ∈ f, c < w.heap.size ∧ ∀ t, ¬ im t c) → f.Nodup → ∃ f', f'.Sublist f ∧ RO g im w' bi ob' f') : ∃ fps', SimF E g im fps' { s with hp := upd id ob' s.hp } a w' := by
  obtain ⟨l1, l2, hhp, hu, _⟩ := look_split hl
  have hhr := hs.hp
  rw [hhp] at hhr
  obtain ⟨f1, f23, hf, ha, bi', f2, f3, hg', rfl, hro2, h3⟩ := (HR_append _ _ _).1 hhr
  obtain rfl : bi = bi' := by rw [hg] at hg'; exact Option.some.inj hg'
  have hbm : b ∈ f2 := RO_mem hro2 hb
  have hnd := hs.nd
  rw [hf] at hnd
  have hsub2 : ∀ c ∈ f2, c ∈ fps := fun c hc => by rw [hf]; exact List.mem_append_right _ (List.mem_append_left _ hc)
  have n23 := (List.nodup_append.1 hnd).2.1
  have n2 := (List.nodup_append.1 n23).1
  obtain ⟨f2', hsl, hro'⟩ := hro f2 hro2 (fun c hc => ⟨hs.lt c (hsub2 c hc), hs.ni c (hsub2 c hc)⟩) n2
  have hb1 : ∀ c ∈ f1, c ≠ b := fun c hc e => (List.nodup_append.1 hnd).2.2 c hc b (List.mem_append_left _ hbm) e
  have hb3 : ∀ c ∈ f3, c ≠ b := fun c hc e => (List.nodup_append.1 n23).2.2 b hbm c hc e.symm
  have him : ∀ t c, im t c → im t c ∧ w'.heap[c]? = w.heap[c]? := fun t c hc => ⟨hc, hk c fun e => by subst e; exact hs.ni c (hsub2 c hbm) t hc⟩
  have hsubl : (f1 ++ (f2' ++ f3)).Sublist fps := by rw [hf]; exact List.Sublist.append (List.Sublist.refl _) (List.Sublist.append hsl (List.Sublist.refl _))
  refine ⟨f1 ++ (f2' ++ f3), hs.dfr, hs.sz, ?_, ?_, hs.nd.sublist hsubl, ?_, fun c hc => hs.ni c (hsubl.subset hc), fun c hc => hs.mine c (hsubl.subset hc), hs.gn, ?_, ?_, ?_, hs.kn, hs.g0, hs.i0, hs.i1⟩
  · intro t x hx
    exact RA_mono (fun _ _ h => h) him x _ [] (fun _ h => by cases h) (hs.fr t x hx)
  · show HR g im w' (Go.Proofs.Ythmgfgiaagkdeaa.upd id ob' s.hp) _
    rw [hu]
    refine (HR_append _ _ _).2 ⟨f1, f2' ++ f3, rfl, HR_mono (fun _ _ h => h) him l1 f1 (fun c hc => hk c (hb1 c hc)) ha, bi, f2', f3, hg, rfl, hro', HR_mono (fun _ _ h => h) him l2 f3 (fun c hc => hk c (hb3 c hc)) h3⟩
  · intro c hc; rw [hsz]; exact hs.lt c (hsubl.subset hc)
  · intro i bi c h1 h2; rw [hsz]; exact hs.gl i bi c h1 h2
  · intro t c hc; rw [hsz]; exact hs.il t c hc
  · exact hs.kp.trans_same hos htp hou (by omega) fun c hc => by
      by_cases h : c = b
      · subst h; exact .inl (hs.mine c (hsub2 c hbm))
      · exact .inr (hk c h)
theorem Chg.upd {E : Env} {g : Ga} {im : Im} {fps : List Nat} {s : AS} {a : Act} {w w' : World} (hs : SimF E g im fps s a w) {b : Nat} (hni : ∀ t, ¬ im t b) (hk : ∀ c, c ≠ b → w'.heap[c]? = w.heap[c]?) (hsz : w'.heap.size = w.heap.size) : Chg g g im im w w' s.nx (· = b) :=
  ⟨fun _ _ => rfl, fun i bi c hi h1 _ => (by rw [hs.gn i hi] at h1; cases h1), fun _ _ h => h, fun _ _ h => .inl h, by omega, fun c hc t h => by subst hc; exact hni t h, fun c _ => by
    by_cases h : c = b
    · exact .inl h
    · exact .inr (hk c h)⟩
section
variable {E : Env} {te : TE} {s : AS} {o : Oper} {Q : AS → Prop}
theorem run_store_var {P : Program} (hte : teOk P te = true) {t : Nat} {inf : TInf} (ht : look t te = some inf) {w : World} {b off : Nat} {cur : Array Value} {ty : TypeId} (hb : w.heap[b]? = some (.cells cur ty (0, 0))) {v : Value} {us : List Value} (hv : v.cells.toList = us) (hl : us.length = inf.sz) (h1 : ∀ u ∈ us, u.oneCell' = true) (hle : off + us.length ≤ cur.size) :
    (Instr.storeAt t (.pointer (some ⟨b, off, none⟩)) v).run P w = .ok () (w.setRow b (cur.toList.take off ++ us ++ cur.toList.drop (off + us.length)).toArray) := by
  have hz := size_of hte ht w
  have hsz : v.cells.size = inf.sz := by rw [← hl, ← hv]; simp
  have := run_storeCells_at (P := P) b off ty us 0 cur w hb (by simpa using hle) h1
  simp only [Nat.add_zero] at this
  unfold Instr.storeAt storeVar
  simp only [Instr.sureAddr, Sem.run_bind, Sem.run_pure, Result.andThen_ok, hz]
  rw [if_neg (by rw [hsz]; simp), hv, this]
/-- A store into a variable. -/
theorem es_store {t : TypeId} {x y : Operand} {id off : Nat} {v : AV} {ty : Nat} {cs ys : List HV} {inf : TInf} (hte : teOk E.P te = true) (hop : o.op = .store t x y) (hx : s.eval x = some (.h (.ptr id off))) (hy : s.eval y = some v) (hv : cellsA v = some ys) (hl : look id s.hp = some (.box ty cs))
    (ht : look t te = some inf) (hsz : Nat.beq ys.length inf.sz = true) (hle : Nat.ble (off + ys.length) cs.length = true) (hd : dok E.nt o.dst = true)
    (hQ : Q (({ s with hp := upd id (.box ty (setL cs off ys)) s.hp } : AS).putd o.dst .top)) : ES E s o (some [id]) Q := by
  intro g im a w K QQ ⟨fps, hs⟩ hK
  have hp := hs.eval hx
  simp only [RA, RH] at hp
  obtain ⟨_, bi, b, hg, hb, e⟩ := hp
  have hus := RA_cells (hs.eval hy) hv
  have hul := RHs_length _ _ _ hus
  obtain ⟨bi', f1, f2, f3, hg', hf, hro⟩ := look_HR hs.hp hl
  obtain rfl : bi = bi' := by rw [hg] at hg'; exact Option.some.inj hg'
  obtain ⟨b', vs, f, hb', rfl, hh, hr⟩ := hro
  obtain rfl : b = b' := by rw [hb] at hb'; exact Option.some.inj hb'
  have hvl := RHs_length _ _ _ hr
  have hle' := Nat.le_of_ble_eq_true hle
  have hsz' := Nat.eq_of_beq_eq_true hsz
  have hcs : (a.eval y).cells.size = ys.length := by simpa using hul
  have hrun := run_store_var (P := E.P) hte ht hh (v := a.eval y) rfl (by omega) (RHs_one _ _ _ hus) (off := off) (by simp; omega)
  have hbf : b ∈ fps := by rw [hf]; exact List.mem_append_right _ (List.mem_append_left _ List.mem_cons_self)
  have hblt := hs.lt b hbf
  have hk : ∀ c, c ≠ b → (w.setRow b (vs.toArray.toList.take off ++ (a.eval y).cells.toList ++ vs.toArray.toList.drop (off + (a.eval y).cells.toList.length)).toArray).heap[c]? = w.heap[c]? := fun c hc => setRow_other w b c _ hc
  obtain ⟨fps', hsim⟩ := hs.upd (ob' := .box ty (setL cs off ys)) hl hg hb hk (by simp) rfl rfl rfl (fun f0 hro0 hf0 hnd0 => by
    obtain ⟨b0, vs0, f4, hb0, rfl, hh0, hr0⟩ := hro0
    obtain rfl : b = b0 := by rw [hb] at hb0; exact Option.some.inj hb0
    rw [hh] at hh0
    injection hh0 with hh0
    injection hh0 with hh0
    have hvv : vs = vs0 := by simpa using hh0
    subst hvv
    obtain ⟨f', hsl, hr'⟩ := RHs_setL (o := off) hr0 hus
    refine ⟨b :: f', List.Sublist.cons_cons _ hsl, b, _, f', hb, rfl, setRow_heap w b _ _ ty (0, 0) hh, ?_⟩
    refine RHs_mono (fun _ _ h => h) (fun t c hc => ⟨hc, hk c fun e => ?_⟩) _ _ _ (fun c hc => hk c fun e => ?_) ?_
    · subst e; exact (hf0 c List.mem_cons_self).2 t hc
    · subst e
      exact (List.nodup_cons.1 hnd0).1 (hsl.subset hc)
    · simpa using hr')
  unfold Oper.wp
  have : (execOp a.eval o).run E.P w = .ok .skip (w.setRow b (vs.toArray.toList.take off ++ (a.eval y).cells.toList ++ vs.toArray.toList.drop (off + (a.eval y).cells.toList.length)).toArray) := by
    simp only [execOp, hop, e, Sem.run_bind, hrun, Result.andThen_ok, Sem.run_pure]
  rw [this]
  refine hK g im _ _ _ (· = b) ⟨fps', hsim.putd (dok_lt hd) (by simp only [RA])⟩ hQ (Chg.upd hs (fun t => hs.ni b hbf t) hk (by simp)) ?_
  rintro m hm c rfl
  injection hm with hm
  subst hm
  exact ⟨id, List.mem_cons_self, bi, hg, hb⟩
end
end Go.Proofs.Ythmgfgiaagkdeaa
/- The engine, part i: rows: written out, made, appended to, stored into. -/
namespace Go.Proofs.Ythmgfgiaagkdeaa
open Go.RowKit

/-- Some objects go, one comes; only blocks of those that go may have been written. -/
theorem SimF.swap {E : Env} {g : Ga} {im : Im} {fps : List Nat} {s : AS} {a : Act} {w w' : World} (hs : SimF E g im fps s a w) {hp0 : List (Nat × Ob)} {fr f0 f' : List Nat} (h0 : HR g im w hp0 f0) (hn : (fr ++ f0).Nodup) (hsub : ∀ b ∈ fr ++ f0, b ∈ fps)
    (bi : BI) (o : Ob) (hk : ∀ b, b < w.heap.size → b ∉ fr → w'.heap[b]? = w.heap[b]?) (hsz : w.heap.size ≤ w'.heap.size) (hos : w'.os = w.os) (htp : w'.tape = w.tape) (hou : w'.output = w.output)
    (hn' : f'.Nodup) (hf' : ∀ b ∈ f', b ∈ fr ∨ w.heap.size ≤ b) (hl' : ∀ b ∈ f', b < w'.heap.size) (hba : ∀ b, bi.a = some b → b < w'.heap.size) (hro : RO (gup g s.nx bi) im w' bi o f') :
    SimF E (gup g s.nx bi) im (f' ++ f0) { fr := s.fr, hp := (s.nx, o) :: hp0, nx := s.nx + 1 } a w' := by
  have hg := gup_old (bi := bi) hs.gn
  have hfr : ∀ b ∈ fr, b ∈ fps := fun b hb => hsub b (List.mem_append_left _ hb)
  have hf0 : ∀ b ∈ f0, b ∈ fps := fun b hb => hsub b (List.mem_append_right _ hb)
  have hi : ∀ t b, im t b → im t b ∧ w'.heap[b]? = w.heap[b]? := fun t b hb => ⟨hb, hk b (hs.il t b hb) fun h => hs.ni b (hfr b h) t hb⟩
  have hdis := (List.nodup_append.1 hn).2.2
  refine ⟨hs.dfr, hs.sz, ?_, ?_, ?_, ?_, ?_, ?_, ?_, ?_, ?_, ?_, ?_, ?_, hs.i0, hs.i1⟩
  · intro t x hx
    exact RA_mono hg hi x _ [] (fun _ h => by cases h) (hs.fr t x hx)
  · refine ⟨bi, f', f0, by simp [gup], rfl, hro, ?_⟩
    exact HR_mono hg hi hp0 f0 (fun b hb => hk b (hs.lt b (hf0 b hb)) fun h => hdis b h b hb rfl) h0
  · rw [List.nodup_append]
    refine ⟨hn', (List.nodup_append.1 hn).2.1, fun x hx y hy e => ?_⟩
    subst e
    rcases hf' x hx with h | h
    · exact hdis x h x hy rfl
    · have := hs.lt x (hf0 x hy); omega
  · intro b hb
    rcases List.mem_append.1 hb with hb | hb
    · exact hl' b hb
    · have := hs.lt b (hf0 b hb); omega
  · intro b hb t h
    rcases List.mem_append.1 hb with hb | hb
    · rcases hf' b hb with h' | h'
      · exact hs.ni b (hfr b h') t h
      · have := hs.il t _ h; omega
    · exact hs.ni b (hf0 b hb) t h
  · intro b hb
    rcases List.mem_append.1 hb with hb | hb
    · rcases hf' b hb with h' | h'
      · exact hs.mine b (hfr b h')
      · exact .inl (Nat.le_trans hs.kp.size h')
    · exact hs.mine b (hf0 b hb)
  · intro i hi'
    simp only [gup]
    rw [if_neg (by simp only at hi'; omega)]
    exact hs.gn i (by simp only at hi'; omega)
  · intro i bi' b h1 h2
    simp only [gup] at h1
    split at h1
    · injection h1 with h1
      subst h1
      exact hba b h2
    · have := hs.gl i bi' b h1 h2; omega
  · intro t b h
    have := hs.il t b h; omega
  · exact hs.kp.trans_same hos htp hou (by omega) fun b hb => by
      by_cases h : b ∈ fr
      · exact .inl (hs.mine b (hfr b h))
      · exact .inr (hk b hb h)
  · have := hs.kn
    simp only
    omega
  · intro i hi'
    have := hs.kn
    simp only [gup]
    rw [if_neg (by omega)]
    exact hs.g0 i hi'
theorem Chg.swap {g : Ga} {im : Im} {w w' : World} {nx : Nat} {bi : BI} {F : Nat → Prop} (h : ∀ i, nx ≤ i → g i = none) (hba : ∀ b, bi.a = some b → w.heap.size ≤ b ∨ F b) (hF : ∀ b, F b → ∀ t, ¬ im t b) (hk : ∀ b, b < w.heap.size → F b ∨ w'.heap[b]? = w.heap[b]?) (hsz : w.heap.size ≤ w'.heap.size) :
    Chg g (gup g nx bi) im im w w' nx F := by
  refine ⟨?_, ?_, fun _ _ h => h, fun _ _ h => .inl h, hsz, hF, hk⟩
  · intro i hi
    simp only [gup]
    rw [if_neg (by omega)]
  · intro i bi' b hi h1 h2
    simp only [gup] at h1
    split at h1
    · injection h1 with h1
      subst h1
      exact hba b h2
    · rw [h i hi] at h1; cases h1

theorem RHs_RL {g : Ga} {im : Im} {w : World} {b : Nat} : ∀ (xs : List CV) (us : List Value) (o : Nat) (f : List Nat), RHs g im w (xs.map HV.c) us f → (∀ j u, us[j]? = some u → w.cell? ⟨b, o + j, none⟩ = some u) → RL im w b xs o f
  | [], us, o, f, h, _ => by simp only [RL]; exact h.2
  | x :: xs, us, o, f, h, hc => by
    obtain ⟨v, vs', f1, f2, rfl, rfl, h1, h2⟩ := h
    simp only [RL]
    refine ⟨v, f1, f2, rfl, hc 0 v rfl, h1, RHs_RL xs vs' (o + 1) f2 h2 fun j u hj => ?_⟩
    have := hc (j + 1) u (by simpa using hj)
    simpa [Nat.add_assoc, Nat.add_comm 1] using this
theorem setL_get {α : Type} (xs ys : List α) (o : Nat) (h : o + ys.length ≤ xs.length) (j : Nat) : (setL xs o ys)[j]? = if j < o then xs[j]? else if j < o + ys.length then ys[j - o]? else xs[j]? := by
  unfold setL
  have hl : (xs.take o).length = o := by simp; omega
  split
  · rw [List.getElem?_append_left (by omega), List.getElem?_take]
    rw [if_pos (by assumption)]
  · rw [List.getElem?_append_right (by omega), hl]
    split
    · rw [List.getElem?_append_left (by omega)]
    · rw [List.getElem?_append_right (by omega), List.getElem?_drop]
      congr 1
      omega
theorem setL_length {α : Type} (xs ys : List α) (o : Nat) (h : o + ys.length ≤ xs.length) : (setL xs o ys).length = xs.length := by
  unfold setL
  simp
  omega
theorem setL_map {α β : Type} (f : α → β) (xs ys : List α) (o : Nat) : (setL xs o ys).map f = setL (xs.map f) o (ys.map f) := by
  simp [setL, List.map_take, List.map_drop]
theorem setL_cons {α : Type} (xs : List α) (o : Nat) (c : α) (l : List α) (h : o + (l.length + 1) ≤ xs.length) : setL xs o (c :: l) = setL (xs.set o c) (o + 1) l := by
  apply List.ext_getElem?
  intro j
  rw [setL_get _ _ _ (by simpa using h), setL_get _ _ _ (by simp; omega)]
  by_cases h1 : j < o
  · rw [if_pos h1, if_pos (by omega), List.getElem?_set, if_neg (by omega)]
  · rw [if_neg h1]
    simp only [List.length_cons]
    by_cases h2 : j = o
    · subst h2
      rw [if_pos (by omega), if_pos (by omega), List.getElem?_set, if_pos rfl, if_pos (by omega)]
      simp
    · by_cases h3 : j < o + (l.length + 1)
      · rw [if_pos h3, if_neg (by omega), if_pos (by omega)]
        rw [show j - o = (j - (o + 1)) + 1 by omega]
        simp
      · rw [if_neg h3, if_neg (by omega), if_neg (by omega), List.getElem?_set, if_neg (by omega)]
theorem fill_list (off : Nat) : ∀ (l : List Value) (k : Nat) (cells : Array Value), off + k + l.length ≤ cells.size → (l.zipIdx k).foldl (fun cs (x : Value × Nat) => cs.setIfInBounds (off + x.2) x.1) cells = (setL cells.toList (off + k) l).toArray
  | [], k, cells, _ => by simp [setL]
  | c :: l, k, cells, h => by
    simp only [List.length_cons] at h
    rw [List.zipIdx_cons, List.foldl_cons, fill_list off l (k + 1) _ (by simp; omega), setL_cons _ _ _ _ (by simp; omega)]
    simp [Nat.add_assoc]
theorem fill_step (off : Nat) (v : Value) (cells : Array Value) (h : off + v.cells.size ≤ cells.size) : v.cells.zipIdx.foldl (fun cs (x : Value × Nat) => cs.setIfInBounds (off + x.2) x.1) cells = (setL cells.toList off v.cells.toList).toArray := by
  have := fill_list off v.cells.toList 0 cells (by simpa using h)
  rw [Nat.add_zero] at this
  rw [← this, ← Array.foldl_toList]
  simp
/-- The parts that are laid into the cells, by place and size. -/
def lay (place : Nat → Option (Nat × Nat)) (s : AS) : List HV → List (Nat × Operand) → Option (List HV)
  | cs, [] => some cs
  | cs, (i, x) :: r => match place i, s.eval x with
    | some (off, sz), some y => match cellsA y with
      | some ys => bif Nat.beq ys.length sz && Nat.ble (off + ys.length) cs.length then lay place s (setL cs off ys) r else none
      | none => none
    | _, _ => none
theorem lay_fill {E : Env} {g : Ga} {im : Im} {fps : List Nat} {s : AS} {a : Act} {w : World} (hs : SimF E g im fps s a w) {place : Nat → Option (Nat × Nat)} : ∀ (parts : List (Nat × Operand)) (cs : List HV) (us : Array Value) (cs' : List HV), lay place s cs parts = some cs' → RHs g im w cs us.toList [] →
    ∃ us', Instr.fill place us (parts.map fun (i, x) => (i, a.eval x)) = some us' ∧ RHs g im w cs' us'.toList []
  | [], cs, us, cs', h, hr => by
    simp only [lay, Option.some.injEq] at h
    subst h
    exact ⟨us, rfl, hr⟩
  | (i, x) :: r, cs, us, cs', h, hr => by
    simp only [lay] at h
    split at h
    · rename_i off sz y hp hy
      split at h
      · rename_i ys hys
        cases hb : (Nat.beq ys.length sz && Nat.ble (off + ys.length) cs.length) with
        | false => rw [hb] at h; simp at h
        | true =>
          rw [hb] at h
          simp only [cond_true] at h
          simp only [Bool.and_eq_true] at hb
          have h1 := Nat.eq_of_beq_eq_true hb.1
          have h2 := Nat.le_of_ble_eq_true hb.2
          have hv := RA_cells (hs.eval hy) hys
          have hvl := RHs_length _ _ _ hv
          have hul := RHs_length _ _ _ hr
          have hcs : (a.eval x).cells.size = ys.length := by simpa using hvl
          obtain ⟨f', hf', hr'⟩ := RHs_setL (o := off) hr hv
          have : f' = [] := List.eq_nil_of_sublist_nil hf'
          subst this
          have hlen : us.size = cs.length := by simpa using hul
          have hst := fill_step off (a.eval x) us (by omega)
          obtain ⟨us', h3, h4⟩ := lay_fill hs r _ (setL us.toList off (a.eval x).cells.toList).toArray cs' h (by simpa [setL] using hr')
          refine ⟨us', ?_, h4⟩
          simp only [List.map_cons, Instr.fill, hp]
          rw [if_neg (by simp; omega), hst]
          exact h3
      · cases h
    · cases h
/-- Slices that are owned go into cells. -/
def absL (hp : List (Nat × Ob)) : List HV → Option (List CV × List (Nat × Ob))
  | [] => some ([], hp)
  | .c x :: r => match absL hp r with
    | some (xs, hp') => some (x :: xs, hp')
    | none => none
  | .sl id 0 n :: r => match look id hp with
    | some (.arr ty e ys) => match absL (del id hp) r with
      | some (xs, hp') => some (.ow ty e n ys :: xs, hp')
      | none => none
    | _ => none
  | _ => none
theorem absL_sound {g : Ga} {im : Im} {w : World} : ∀ (hs : List HV) (hp : List (Nat × Ob)) (us : List Value) (fps : List Nat) (xs : List CV) (hp' : List (Nat × Ob)), absL hp hs = some (xs, hp') → RHs g im w hs us [] → HR g im w hp fps → fps.Nodup →
    ∃ fx f0, RHs g im w (xs.map HV.c) us fx ∧ HR g im w hp' f0 ∧ (fx ++ f0).Nodup ∧ ∀ b ∈ fx ++ f0, b ∈ fps
  | [], hp, us, fps, xs, hp', h, hr, hh, hn => by
    simp only [absL, Option.some.injEq, Prod.mk.injEq] at h
    obtain ⟨rfl, rfl⟩ := h
    exact ⟨[], fps, hr, hh, by simpa using hn, by simp⟩
  | .c x :: r, hp, us, fps, xs, hp', h, hr, hh, hn => by
    simp only [absL] at h
    split at h
    · rename_i xs' hp'' hx
      simp only [Option.some.injEq, Prod.mk.injEq] at h
      obtain ⟨rfl, rfl⟩ := h
      obtain ⟨v, vs', f1, f2, rfl, hf, h1, h2⟩ := hr
      obtain ⟨rfl, rfl⟩ := List.append_eq_nil_iff.1 hf.symm
      obtain ⟨fx, f0, h3, h4, h5, h6⟩ := absL_sound r hp vs' fps xs' hp'' hx h2 hh hn
      exact ⟨fx, f0, ⟨v, vs', [], fx, rfl, rfl, h1, h3⟩, h4, h5, h6⟩
    · cases h
  | .sl id 0 n :: r, hp, us, fps, xs, hp', h, hr, hh, hn => by
    simp only [absL] at h
    split at h
    · rename_i ty e ys hl
      split at h
      · rename_i xs' hp'' hx
        simp only [Option.some.injEq, Prod.mk.injEq] at h
        obtain ⟨rfl, rfl⟩ := h
        obtain ⟨v, vs', f1, f2, rfl, hf, h1, h2⟩ := hr
        obtain ⟨rfl, rfl⟩ := List.append_eq_nil_iff.1 hf.symm
        obtain ⟨bi, fa, fb, fc, hg, rfl, hro, hd⟩ := HR_del hh hl
        have hn' : (fa ++ fc).Nodup := hn.sublist (List.Sublist.append (List.Sublist.refl _) (List.sublist_append_right _ _))
        obtain ⟨fx, f0, h3, h4, h5, h6⟩ := absL_sound r _ vs' _ xs' hp'' hx h2 hd hn'
        obtain ⟨_, bi', hg', h7, h8, rfl⟩ := h1
        obtain rfl : bi = bi' := by rw [hg] at hg'; exact Option.some.inj hg'
        refine ⟨fb ++ fx, f0, ⟨_, vs', fb, fx, rfl, rfl, ?_, h3⟩, h4, ?_, ?_⟩
        · simp only [RH, R]
          obtain ⟨h9, h10, ⟨h11, h12, h13, h14⟩ | ⟨b, cur, f, h11, h12, h13, h14, h15⟩⟩ := hro
          · left
            refine ⟨?_, by omega, h12, h14⟩
            rw [h11, h13]
            have : n = 0 := by omega
            subst this
            rfl
          · right
            refine ⟨b, bi.cap, cur, f, ?_, by omega, h8, h13, h14, h12, h15⟩
            rw [h11]
            simp [slv]
        · rw [List.append_assoc]
          rw [List.nodup_append] at hn ⊢
          obtain ⟨n1, n2, n3⟩ := hn
          rw [List.nodup_append] at n2
          refine ⟨n2.1, h5, fun a ha b hb => ?_⟩
          rcases List.mem_append.1 (h6 b hb) with hb1 | hb3
          · exact (n3 b hb1 a (List.mem_append_left _ ha)).symm
          · exact n2.2.2 a ha b hb3
        · intro b hb
          rw [List.append_assoc] at hb
          rcases List.mem_append.1 hb with hb | hb
          · exact List.mem_append_right _ (List.mem_append_left _ hb)
          · rcases List.mem_append.1 (h6 b hb) with hb | hb
            · exact List.mem_append_left _ hb
            · exact List.mem_append_right _ (List.mem_append_right _ hb)
      · cases h
    · cases h
  | .sl id (i + 1) n :: r, hp, us, fps, xs, hp', h, hr, hh, hn => by simp [absL] at h
  | .sw .. :: r, hp, us, fps, xs, hp', h, hr, hh, hn => by simp [absL] at h
  | .ptr .. :: r, hp, us, fps, xs, hp', h, hr, hh, hn => by simp [absL] at h
  | .rp .. :: r, hp, us, fps, xs, hp', h, hr, hh, hn => by simp [absL] at h
/-- n times the cells of one element. -/
def reps {α : Type} (zs : List α) : Nat → List α
  | 0 => []
  | n + 1 => zs ++ reps zs n
theorem reps_length {α : Type} (zs : List α) : ∀ n, (reps zs n).length = n * zs.length
  | 0 => by simp [reps]
  | n + 1 => by simp [reps, reps_length zs n, Nat.add_mul, Nat.add_comm]
theorem reps_get {α : Type} (zs : List α) : ∀ (n j : Nat), j < n * zs.length → (reps zs n)[j]? = zs[j % zs.length]?
  | 0, j, h => by simp at h
  | n + 1, j, h => by
    simp only [reps]
    by_cases hj : j < zs.length
    · rw [List.getElem?_append_left hj, Nat.mod_eq_of_lt hj]
    · have hlt : j - zs.length < n * zs.length := by rw [Nat.add_mul] at h; omega
      rw [List.getElem?_append_right (by omega), reps_get zs n _ hlt, ← Nat.mod_eq_sub_mod (by omega)]
theorem madeCells_reps (z : Array Value) (n : Nat) (hz : 0 < z.size) : (madeCells z (n * z.size)).toList = reps z.toList n := by
  apply List.ext_getElem?
  intro j
  by_cases hj : j < n * z.size
  · rw [reps_get _ _ _ (by simpa using hj)]
    have hm : j % z.size < z.size := Nat.mod_lt _ hz
    simp [madeCells, hj, hm]
  · rw [List.getElem?_eq_none (by simp [madeCells]; omega), List.getElem?_eq_none (by rw [reps_length]; simpa using hj)]
theorem RHs_reps {g : Ga} {im : Im} {w : World} {zs : List HV} {vs : List Value} (h : RHs g im w zs vs []) : ∀ n, RHs g im w (reps zs n) (reps vs n) []
  | 0 => ⟨rfl, rfl⟩
  | n + 1 => by have := RHs_append _ _ _ _ _ _ h (RHs_reps h n); simpa [reps] using this
end Go.Proofs.Ythmgfgiaagkdeaa
/- The engine, part j: the operations on rows. -/
namespace Go.Proofs.Ythmgfgiaagkdeaa
open Go.RowKit

section
variable {E : Env} {te : TE} {s : AS} {o : Oper} {Q : AS → Prop}
theorem mem_nodup_cons {n : Nat} {f : List Nat} {m : Nat} (h : f.Nodup) (hl : ∀ b ∈ f, b < m) (hm : m ≤ n) : (n :: f).Nodup := List.nodup_cons.2 ⟨fun hn => by have := hl n hn; omega, h⟩
/-- A row that is written out: '[]T{..}', and the row that a variadic call makes. -/
theorem es_bs {t e len : Nat} {sz' b'' : Nat} {zs'' : List CV} {parts : Array (Nat × Operand)} {inf : TInf} {cs : List HV} {xs : List CV} {hp' : List (Nat × Ob)} (hte : teOk E.P te = true) (hop : o.op = .buildSlice t len parts) (ht : look t te = some ⟨.slice e, sz', b'', zs''⟩) (he : look e te = some inf)
    (hlay : lay (fun i => some (i * inf.sz, inf.sz)) s (reps (inf.zs.map HV.c) len) parts.toList = some cs) (habs : absL s.hp cs = some (xs, hp')) (hsm : Nat.ble (len * inf.sz) 16777216 = true) (hsz : Nat.blt 0 inf.sz = true) (hd : dok E.nt o.dst = true)
    (hQ : Q (({ fr := s.fr, hp := (s.nx, .arr e inf.sz xs) :: hp', nx := s.nx + 1 } : AS).putd o.dst (.h (.sl s.nx 0 len)))) : ES E s o (some []) Q := by
  intro g im a w K QQ ⟨fps, hs⟩ hK
  have hu := slice_und hte ht
  obtain ⟨⟨i, z, h1, h2, h3, h4, h5, h6⟩, h7⟩ := teOk_look hte he
  have hsz' : 0 < inf.sz := Nat.lt_of_succ_le (Nat.le_of_ble_eq_true hsz)
  have hsm' := Nat.le_of_ble_eq_true hsm
  have hz0 : RHs g im w (inf.zs.map HV.c) z.cells.toList [] := areV_RHs _ _ h5
  have hr0 := RHs_reps hz0 len
  have hm : (madeCells z.cells (len * inf.sz)).toList = reps z.cells.toList len := by rw [← h6]; exact madeCells_reps _ _ (by omega)
  obtain ⟨us', hfill, hr⟩ := lay_fill hs parts.toList _ (madeCells z.cells (len * inf.sz)) cs hlay (by rw [hm]; exact hr0)
  obtain ⟨fx, f0, hx, hh, hn, hsub⟩ := absL_sound cs s.hp _ fps xs hp' habs hr hs.hp hs.nd
  have hlen : us'.size = len * inf.sz := by
    have e1 := RHs_length _ _ _ hr
    have key : ∀ (parts : List (Nat × Operand)) (cs cs' : List HV), lay (fun i => some (i * inf.sz, inf.sz)) s cs parts = some cs' → cs'.length = cs.length := by
      intro parts
      induction parts with
      | nil => intro cs cs' h; simp only [lay, Option.some.injEq] at h; rw [h]
      | cons p r ih =>
        intro cs cs' h
        obtain ⟨i, x⟩ := p
        simp only [lay] at h
        split at h
        · split at h
          · rename_i off sz y hp hy _ ys hys
            cases hb : (Nat.beq ys.length sz && Nat.ble (off + ys.length) cs.length) with
            | false => rw [hb] at h; simp at h
            | true =>
              rw [hb] at h
              simp only [cond_true] at h
              simp only [Bool.and_eq_true] at hb
              rw [ih _ _ h, setL_length _ _ _ (Nat.le_of_ble_eq_true hb.2)]
          · cases h
        · cases h
    have e2 := key _ _ _ hlay
    rw [reps_length] at e2
    have e3 := areV_length _ _ h5
    simp at e1 e2 e3
    rw [e1, e2, e3, h6]
  have hrun : (execOp a.eval o).run E.P w = .ok (.value (.slice (some ⟨w.heap.size, 0, none⟩) len len)) (w.alloc (.cells us' e)) := by
    have hps : (parts.map fun (p : Nat × Operand) => (p.1, a.eval p.2)).toList = parts.toList.map fun (i, x) => (i, a.eval x) := by simp
    have hmade : ((Array.range (len * inf.sz)).map (z.cells[· % z.cells.size]!)) = madeCells z.cells (len * inf.sz) := rfl
    simp only [execOp, hop, Instr.buildSlice, Sem.run_bind, run_underlying hu, Result.andThen_ok, sizeOf, typeInfo, run_program, h1, Sem.run_pure, h2]
    rw [if_neg (by omega)]
    by_cases h0 : len * inf.sz = 0
    · rw [if_pos h0]
      simp only [Sem.run_pure, Result.andThen_ok, Sem.run_bind]
      have hm0 : ((Array.range (len * inf.sz)).map ((#[] : Array Value)[· % (#[] : Array Value).size]!)) = madeCells z.cells (len * inf.sz) := by rw [h0]; simp [madeCells]
      rw [hm0, hps, hfill]
      simp [newRow]
    · rw [if_neg h0]
      simp only [zeroValue, Sem.run_bind, typeInfo, run_program, h1, Sem.run_pure, Result.andThen_ok, h4]
      rw [hmade, hps, hfill]
      simp [newRow]
  have hk : ∀ b, b < w.heap.size → (w.alloc (.cells us' e)).heap[b]? = w.heap[b]? := fun b hb => Below.heap_alloc w _ b hb
  have hcell : ∀ j u, us'.toList[j]? = some u → (w.alloc (.cells us' e)).cell? ⟨w.heap.size, 0 + j, none⟩ = some u := by
    intro j u hj
    rw [Nat.zero_add, cell_of_row _ _ _ us' e (0, 0) (heap_alloc_new w _)]
    simpa using hj
  have hlt : ∀ b ∈ fx, b < w.heap.size := fun b hb => hs.lt b (hsub b (List.mem_append_left _ hb))
  have hx' : RHs g im (w.alloc (.cells us' e)) (xs.map HV.c) us'.toList fx := RHs_mono (fun _ _ h => h) (fun t b hb => ⟨hb, hk b (hs.il t b hb)⟩) _ _ _ (fun b hb => hk b (hlt b hb)) hx
  have hsim := hs.swap (fr := fx) (f' := w.heap.size :: fx) (w' := w.alloc (.cells us' e)) hh hn hsub ⟨some w.heap.size, len, e, inf.sz⟩ (.arr e inf.sz xs) (fun b hb _ => hk b hb) (by simp) rfl rfl rfl
    (mem_nodup_cons (List.nodup_append.1 hn).1 hlt (Nat.le_refl _)) (fun b hb => by rcases List.mem_cons.1 hb with rfl | hb; exact .inr (Nat.le_refl _); exact .inl hb)
    (fun b hb => by rcases List.mem_cons.1 hb with rfl | hb; simp; have := hlt b hb; simp; omega) (fun b hb => by simp at hb; subst hb; simp)
    ⟨rfl, rfl, .inr ⟨w.heap.size, us', fx, rfl, rfl, heap_alloc_new w _, hlen, RHs_RL xs _ 0 fx hx' hcell⟩⟩
  unfold Oper.wp
  rw [hrun]
  refine hK _ im _ _ _ _ ⟨_, hsim.putd (dok_lt hd) (v := .slice (some ⟨w.heap.size, 0, none⟩) len len) ?_⟩ hQ (Chg.swap (F := fun _ => False) hs.gn (fun b hb => by simp at hb; left; omega) (fun _ h => h.elim) (fun b hb => .inr (hk b hb)) (by simp)) fun _ _ _ h => h.elim
  simp only [RA, RH]
  refine ⟨trivial, ⟨some w.heap.size, len, e, inf.sz⟩, by simp [gup], by simp, ?_, by simp [slv]⟩
  have : len ≤ 16777216 := Nat.le_trans (Nat.le_mul_of_pos_right _ hsz') hsm'
  simp only [maxLen]; omega
/-- make([]T, n). -/
theorem es_make {t e : Nat} {sz' b'' : Nat} {zs'' : List CV} {x y : Operand} {inf : TInf} {i j : Int} (n c : Nat) (hte : teOk E.P te = true) (hop : o.op = .makeSlice t x y) (hx : s.eval x = some (.h (.c (.int .i64 i)))) (hy : s.eval y = some (.h (.c (.int .i64 j)))) (hi : i = (n : Int)) (hj : j = (c : Int)) (hnc : n ≤ c)
    (ht : look t te = some ⟨.slice e, sz', b'', zs''⟩) (he : look e te = some inf) (hby : c * inf.by' ≤ 140737488355328) (hmx : c ≤ 9223372036854775807) (hsz : Nat.blt 0 inf.sz = true) (hd : dok E.nt o.dst = true)
    (hQ : Q (({ fr := s.fr, hp := (s.nx, .arr e inf.sz (reps inf.zs n)) :: s.hp, nx := s.nx + 1 } : AS).putd o.dst (.h (.sl s.nx 0 n)))) : ES E s o (some []) Q := by
  intro g im a w K QQ ⟨fps, hs⟩ hK
  have hu := slice_und hte ht
  obtain ⟨⟨ii, z, h1, h2, h3, h4, h5, h6⟩, h7⟩ := teOk_look hte he
  have hsz' : 0 < inf.sz := Nat.lt_of_succ_le (Nat.le_of_ble_eq_true hsz)
  subst hi hj
  have e1 := RA_int (hs.eval hx)
  have e2 := RA_int (hs.eval hy)
  have hm : (madeCells z.cells (c * inf.sz)).toList = reps z.cells.toList c := by rw [← h6]; exact madeCells_reps _ _ (by omega)
  have hb0 : (ii.bytes : Int) * (c : Int) ≤ 281474976710656 := by
    rw [h3]
    have : ((inf.by' * c : Nat) : Int) ≤ 281474976710656 := by rw [Nat.mul_comm]; omega
    rwa [Int.natCast_mul] at this
  have hrun0 := run_make (P := E.P) w t e ii z hu h1 h4 .i64 .i64 n c (by omega) (by omega) hb0 (by omega)
  simp only [Int.toNat_natCast, h2] at hrun0
  have hrun : (execOp a.eval o).run E.P w = .ok (.value (.slice (some ⟨w.heap.size, 0, none⟩) n c)) (w.alloc (.cells (madeCells z.cells (c * inf.sz)) e)) := by
    simp only [execOp, hop, e1, e2, Sem.run_bind, hrun0, Result.andThen_ok, Sem.run_pure]
  have hk : ∀ b, b < w.heap.size → (w.alloc (.cells (madeCells z.cells (c * inf.sz)) e)).heap[b]? = w.heap[b]? := fun b hb => Below.heap_alloc w _ b hb
  have hz0 : RHs g im w (inf.zs.map HV.c) z.cells.toList [] := areV_RHs _ _ h5
  have hmap : ∀ k, (reps inf.zs k).map HV.c = reps (inf.zs.map HV.c) k := by
    intro k
    induction k with
    | zero => rfl
    | succ k ih => simp [reps, ih]
  have hr0 := RHs_reps hz0 n
  rw [← hmap] at hr0
  have hpre : ∀ (k c : Nat), k ≤ c → ∀ (j : Nat) (u : Value), (reps z.cells.toList k)[j]? = some u → (reps z.cells.toList c)[j]? = some u := by
    intro k c hkc j u hj
    have hjl : j < k * z.cells.toList.length := by
      rw [← reps_length]
      exact (List.getElem?_eq_some_iff.1 hj).1
    rw [reps_get _ _ _ hjl] at hj
    rw [reps_get _ _ _ (Nat.lt_of_lt_of_le hjl (Nat.mul_le_mul_right _ hkc)), hj]
  have hcell : ∀ j u, (reps z.cells.toList n)[j]? = some u → (w.alloc (.cells (madeCells z.cells (c * inf.sz)) e)).cell? ⟨w.heap.size, 0 + j, none⟩ = some u := by
    intro j u hj
    rw [Nat.zero_add, cell_of_row _ _ _ _ e (0, 0) (heap_alloc_new w _), ← Array.getElem?_toList, hm]
    exact hpre n c hnc j u hj
  have hr' : RHs g im (w.alloc (.cells (madeCells z.cells (c * inf.sz)) e)) ((reps inf.zs n).map HV.c) (reps z.cells.toList n) [] := RHs_mono (fun _ _ h => h) (fun t b hb => ⟨hb, hk b (hs.il t b hb)⟩) _ _ _ (fun _ h => by cases h) hr0
  have hsim := hs.swap (fr := []) (f' := [w.heap.size]) (w' := w.alloc (.cells (madeCells z.cells (c * inf.sz)) e)) hs.hp (by simpa using hs.nd) (by simp) ⟨some w.heap.size, c, e, inf.sz⟩ (.arr e inf.sz (reps inf.zs n)) (fun b hb _ => hk b hb) (by simp) rfl rfl rfl
    (by simp) (fun b hb => by simp at hb; right; omega) (fun b hb => by simp at hb; simp; omega) (fun b hb => by simp at hb; subst hb; simp)
    ⟨rfl, rfl, .inr ⟨w.heap.size, _, [], rfl, rfl, heap_alloc_new w _, by simp [size_madeCells], RHs_RL _ _ 0 [] hr' hcell⟩⟩
  unfold Oper.wp
  rw [hrun]
  refine hK _ im _ _ _ _ ⟨_, hsim.putd (dok_lt hd) (v := .slice (some ⟨w.heap.size, 0, none⟩) n c) ?_⟩ hQ (Chg.swap (F := fun _ => False) hs.gn (fun b hb => by simp at hb; left; omega) (fun _ h => h.elim) (fun b hb => .inr (hk b hb)) (by simp)) fun _ _ _ h => h.elim
  simp only [RA, RH]
  exact ⟨trivial, ⟨some w.heap.size, c, e, inf.sz⟩, by simp [gup], by simp; omega, by simp only [maxLen]; omega, by simp [slv]⟩

def baseOf (s : AS) (ty e : Nat) : AV → Option (Nat × List CV × List (Nat × Ob) × List Nat)
  | .h (.c .nil) => some (0, [], s.hp, [])
  | .h (.sl id 0 n) => match look id s.hp with
    | some (.arr ty' e' xs) => bif Nat.beq ty' ty && Nat.beq e' e then some (n, xs, del id s.hp, [id]) else none
    | _ => none
  | _ => none
/-- What is appended: nothing, a slice that is only read, a row of the call's own that goes with it. -/
def srcOf (hp : List (Nat × Ob)) : AV → Option (Nat × List CV × List (Nat × Ob))
  | .h (.c .nil) => some (0, [], hp)
  | .h (.c (.rd _ m ys)) => some (m, ys, hp)
  | .h (.sl id 0 m) => match look id hp with
    | some (.arr _ _ ys) => some (m, ys, del id hp)
    | _ => none
  | _ => none
theorem base_sound {g : Ga} {im : Im} {fps : List Nat} {a : Act} {w : World} (hs : SimF E g im fps s a w) {ty e n : Nat} {xs : List CV} {hp0 : List (Nat × Ob)} {md : List Nat} {x : AV} {v : Value} (hb : baseOf s ty e x = some (n, xs, hp0, md)) (hl : xs.length = n * e) (hv : RA g im w x v []) :
    ∃ us fx fr f0, w.ownsRow 0 ty e v n us ∧ RHs g im w (xs.map HV.c) us fx ∧ HR g im w hp0 f0 ∧ (fr ++ f0).Nodup ∧ (∀ b ∈ fr ++ f0, b ∈ fps) ∧ fx.Sublist fr ∧ (∀ b, v.ownBlock = some b → fr = b :: fx ∧ ∃ id ∈ md, ∃ bi, g id = some bi ∧ bi.a = some b) ∧ (v.ownBlock = none → fx = []) := by
  unfold baseOf at hb
  split at hb
  · simp only [Option.some.injEq, Prod.mk.injEq] at hb
    obtain ⟨rfl, rfl, rfl, rfl⟩ := hb
    simp only [RA, RH, R] at hv
    rw [hv.1]
    exact ⟨[], [], [], fps, World.ownsRow_nil w 0 ty e, ⟨rfl, rfl⟩, hs.hp, by simpa using hs.nd, by simp, List.Sublist.refl _, by simp [Value.ownBlock], fun _ => rfl⟩
  · rename_i id n'
    split at hb
    · rename_i ty' e' xs' hlk
      cases hc : (Nat.beq ty' ty && Nat.beq e' e) with
      | false => rw [hc] at hb; simp at hb
      | true =>
        rw [hc] at hb
        simp only [cond_true, Option.some.injEq, Prod.mk.injEq] at hb
        obtain ⟨rfl, rfl, rfl, rfl⟩ := hb
        simp only [Bool.and_eq_true] at hc
        obtain rfl : ty' = ty := Nat.eq_of_beq_eq_true hc.1
        obtain rfl : e' = e := Nat.eq_of_beq_eq_true hc.2
        simp only [RA, RH] at hv
        obtain ⟨_, bi, hg, h3, h4, rfl⟩ := hv
        obtain ⟨bi', f1, f2, f3, hg', hf, hro, hd⟩ := HR_del hs.hp hlk
        obtain rfl : bi = bi' := by rw [hg] at hg'; exact Option.some.inj hg'
        have hn := hs.nd
        rw [hf] at hn
        have hn2 : (f2 ++ (f1 ++ f3)).Nodup := by
          rw [List.nodup_append] at hn ⊢
          obtain ⟨n1, n2, n3⟩ := hn
          rw [List.nodup_append] at n2
          refine ⟨n2.1, ?_, fun a ha b hb => ?_⟩
          · rw [List.nodup_append]
            exact ⟨n1, n2.2.1, fun a ha b hb => n3 a ha b (List.mem_append_right _ hb)⟩
          · rcases List.mem_append.1 hb with hb | hb
            · exact (n3 b hb a (List.mem_append_left _ ha)).symm
            · exact n2.2.2 a ha b hb
        have hsub : ∀ b ∈ f2 ++ (f1 ++ f3), b ∈ fps := by
          intro b hb
          rw [hf]
          rcases List.mem_append.1 hb with hb | hb
          · exact List.mem_append_right _ (List.mem_append_left _ hb)
          · rcases List.mem_append.1 hb with hb | hb
            · exact List.mem_append_left _ hb
            · exact List.mem_append_right _ (List.mem_append_right _ hb)
        obtain ⟨h9, h10, ⟨h11, h12, h13, h14⟩ | ⟨b, cur, f, h11, h12, h13, h14, h15⟩⟩ := hro
        · subst h12 h14
          have hn0 : n' = 0 := by omega
          subst hn0
          refine ⟨[], [], [], f1 ++ f3, ?_, ⟨rfl, rfl⟩, hd, by simpa using hn2, hsub, List.Sublist.refl _, ?_, fun _ => rfl⟩
          · rw [h11, h13]; exact World.ownsRow_nil w 0 _ _
          · rw [h11]; simp [slv, Value.ownBlock]
        · subst h12
          obtain ⟨us, hus, hcell⟩ := RL_RHs (g := g) _ _ _ h15
          have hul := RHs_length _ _ _ hus
          simp only [List.length_map] at hul
          refine ⟨us, f, b :: f, f1 ++ f3, ?_, hus, hd, hn2, hsub, List.sublist_cons_self _ _, ?_, ?_⟩
          · refine ⟨by omega, .inr ⟨b, bi.cap, cur, ?_, Nat.zero_le _, h13, by omega, h4, h14, ?_⟩⟩
            · rw [h11]; simp [slv]
            · apply List.ext_getElem?
              intro j
              by_cases hj : j < n' * e'
              · rw [List.getElem?_take, if_pos hj]
                have hju : j < us.length := by omega
                have := hcell j _ (List.getElem?_eq_getElem hju)
                rw [Nat.zero_add, cell_of_row w b j cur _ (0, 0) h13] at this
                rw [List.getElem?_eq_getElem hju, ← this]
                simp
              · rw [List.getElem?_eq_none (by simp; omega), List.getElem?_eq_none (by omega)]
          · intro b' hb'
            rw [h11] at hb'
            simp [slv, Value.ownBlock] at hb'
            subst hb'
            exact ⟨rfl, id, List.mem_cons_self, bi, hg, h11⟩
          · intro h
            rw [h11] at h
            simp [slv, Value.ownBlock] at h
    · cases hb
  · cases hb
theorem src_sound {g : Ga} {im : Im} {w : World} {hp0 : List (Nat × Ob)} {f0 : List Nat} (hh : HR g im w hp0 f0) (hn : f0.Nodup) {m e : Nat} (he0 : 0 < e) {ys : List CV} {hp1 : List (Nat × Ob)} {x : AV} {v : Value} (hb : srcOf hp0 x = some (m, ys, hp1)) (hl : ys.length = m * e) (hv : RA g im w x v []) :
    ∃ A c us fy f1, v = .slice A m c ∧ us.length = m * e ∧ RHs g im w (ys.map HV.c) us fy ∧ HR g im w hp1 f1 ∧ (fy ++ f1).Nodup ∧ (∀ b ∈ fy ++ f1, b ∈ f0) ∧ ((us = [] ∧ m = 0 ∧ A = none) ∨ ∃ ad, A = some ad ∧ ∀ j u, us[j]? = some u → w.cell? (ad.add j) = some u) ∧ (m = 0 → us = []) := by
  unfold srcOf at hb
  have zero : ∀ {us : List Value}, us.length = m * e → m = 0 → us = [] := fun h1 h2 => List.eq_nil_of_length_eq_zero (by rw [h1, h2, Nat.zero_mul])
  split at hb
  · simp only [Option.some.injEq, Prod.mk.injEq] at hb
    obtain ⟨rfl, rfl, rfl⟩ := hb
    simp only [RA, RH, R] at hv
    exact ⟨none, 0, [], [], f0, hv.1, by simp, ⟨rfl, rfl⟩, hh, by simpa using hn, by simp, .inl ⟨rfl, rfl, rfl⟩, fun _ => rfl⟩
  · simp only [Option.some.injEq, Prod.mk.injEq] at hb
    obtain ⟨rfl, rfl, rfl⟩ := hb
    simp only [RA, RH, R] at hv
    obtain ⟨_, A, c, rfl, h3, h4, h5⟩ := hv
    rcases h5 with h5 | ⟨b, oo, hA, him, hr⟩
    · subst h5
      simp only [List.length_nil] at hl
      refine ⟨A, c, [], [], f0, rfl, by simpa using hl, ⟨rfl, rfl⟩, hh, by simpa using hn, by simp, ?_, fun _ => rfl⟩
      cases A with
      | some ad => exact .inr ⟨ad, rfl, by simp⟩
      | none =>
        left
        refine ⟨rfl, ?_, rfl⟩
        rcases Nat.mul_eq_zero.1 hl.symm with h | h
        · exact h
        · omega
    · obtain ⟨us, hus, hcell⟩ := RL_RHs (g := g) _ _ _ hr
      have hul := RHs_length _ _ _ hus
      simp only [List.length_map] at hul
      exact ⟨A, c, us, [], f0, rfl, by omega, hus, hh, by simpa using hn, by simp, .inr ⟨_, hA, fun j u hj => by rw [addr_add]; exact hcell j u hj⟩, zero (by omega)⟩
  · rename_i id m'
    split at hb
    · rename_i ty' e' ys' hlk
      simp only [Option.some.injEq, Prod.mk.injEq] at hb
      obtain ⟨rfl, rfl, rfl⟩ := hb
      simp only [RA, RH] at hv
      obtain ⟨_, bi, hg, h3, h4, rfl⟩ := hv
      obtain ⟨bi', f1, f2, f3, hg', hf, hro, hd⟩ := HR_del hh hlk
      obtain rfl : bi = bi' := by rw [hg] at hg'; exact Option.some.inj hg'
      rw [hf] at hn
      have hn2 : (f2 ++ (f1 ++ f3)).Nodup := by
        rw [List.nodup_append] at hn ⊢
        obtain ⟨n1, n2, n3⟩ := hn
        rw [List.nodup_append] at n2
        refine ⟨n2.1, ?_, fun a ha b hb => ?_⟩
        · rw [List.nodup_append]
          exact ⟨n1, n2.2.1, fun a ha b hb => n3 a ha b (List.mem_append_right _ hb)⟩
        · rcases List.mem_append.1 hb with hb | hb
          · exact (n3 b hb a (List.mem_append_left _ ha)).symm
          · exact n2.2.2 a ha b hb
      have hsub : ∀ b ∈ f2 ++ (f1 ++ f3), b ∈ f0 := by
        intro b hb
        rw [hf]
        rcases List.mem_append.1 hb with hb | hb
        · exact List.mem_append_right _ (List.mem_append_left _ hb)
        · rcases List.mem_append.1 hb with hb | hb
          · exact List.mem_append_left _ hb
          · exact List.mem_append_right _ (List.mem_append_right _ hb)
      obtain ⟨h9, h10, ⟨h11, h12, h13, h14⟩ | ⟨b, cur, f, h11, h12, h13, h14, h15⟩⟩ := hro
      · subst h12 h14
        have hn0 : m' = 0 := by omega
        subst hn0
        refine ⟨none, bi.cap, [], [], f1 ++ f3, by rw [h11]; simp [slv], by simp, ⟨rfl, rfl⟩, hd, by simpa using hn2, hsub, .inl ⟨rfl, rfl, rfl⟩, fun _ => rfl⟩
      · subst h12
        obtain ⟨us, hus, hcell⟩ := RL_RHs (g := g) _ _ _ h15
        have hul := RHs_length _ _ _ hus
        simp only [List.length_map] at hul
        have hsl : (f ++ (f1 ++ f3)).Sublist (b :: f ++ (f1 ++ f3)) := List.Sublist.append (List.sublist_cons_self _ _) (List.Sublist.refl _)
        refine ⟨some ⟨b, 0, none⟩, bi.cap, us, f, f1 ++ f3, by rw [h11]; simp [slv], by omega, hus, hd, hn2.sublist hsl, fun c hc => hsub c (hsl.subset hc), .inr ⟨_, rfl, fun j u hj => by rw [addr_add]; exact hcell j u hj⟩, zero (by omega)⟩
    · cases hb
  · cases hb
theorem run_append_of_nil {P : Program} (w : World) (base : Nat) (t ty e : TypeId) (i : TypeInfo) (size : Nat) (ht : P.underlying t = some (.slice e)) (hi : P.info? e = some i)
    (v : Value) (n : Nat) (xs : List Value) (hown : w.ownsRow base e size v n xs) (c : Nat) : (Builtin.append_ #[t, t] ty #[v, .slice none 0 c]).run P w = .ok v w := by
  rcases hown.2 with ⟨rfl, rfl⟩ | ⟨g, cap, cur, rfl, _, _, hnc, _⟩
  · simp [Builtin.append_, run_underlying ht, sizeOf, typeInfo, hi, Builtin.lenOf, Builtin.firstCells]
  · simp [Builtin.append_, run_underlying ht, sizeOf, typeInfo, hi, Builtin.lenOf, Builtin.firstCells, hnc, storeCells]
theorem run_append {P : Program} {te : TE} (hte : teOk P te = true) {t e : Nat} {sz' b'' : Nat} {zs'' : List CV} {inf : TInf} (ht : look t te = some ⟨.slice e, sz', b'', zs''⟩) (he : look e te = some inf) (hsz : 0 < inf.sz) {w : World} (ty : TypeId) (v : Value) (n : Nat) (us : List Value) (hown : w.ownsRow 0 e inf.sz v n us)
    (A : Option Addr) (m c : Nat) (ns : List Value) (hl : ns.length = m * inf.sz) (h1 : ∀ u ∈ ns, u.oneCell' = true) (hA : (ns = [] ∧ m = 0 ∧ A = none) ∨ ∃ ad, A = some ad ∧ ∀ j u, ns[j]? = some u → w.cell? (ad.add j) = some u) (h63 : n + m ≤ maxLen) (hbytes : (n + m) * inf.by' ≤ 140737488355328) :
    ∃ v' w', (Builtin.append_ #[t, t] ty #[v, .slice A m c]).run P w = .ok v' w' ∧ w'.ownsRow 0 e inf.sz v' (n + m) (us ++ ns) ∧ w.grownBy w' v.ownBlock ∧ (v'.ownBlock = v.ownBlock ∨ v'.ownBlock = some w.heap.size) := by
  have hu := slice_und hte ht
  obtain ⟨⟨i, z, h2, h3, h4, h5, h6, h7⟩, h8⟩ := teOk_look hte he
  rcases hA with ⟨rfl, rfl, rfl⟩ | ⟨ad, rfl, hc⟩
  · refine ⟨v, w, run_append_of_nil w 0 t ty e i inf.sz hu h2 v n us hown c, by simpa using hown, World.grownBy.refl w _, .inl rfl⟩
  · obtain ⟨v', w', h9, h10, h11, _, h12⟩ := run_append_own_at (P := P) w 0 t ty e i z inf.sz inf.by' hu h2 h5 h3 h4 h7 hsz v n us hown ad m c ns hl hc h1 h63 hbytes (Nat.zero_le _)
    exact ⟨v', w', h9, h10, h11, h12⟩
/-- The operands of an append of two slices of one type. -/
def appOf : Op → Option (Operand × Operand × Nat)
  | .call c => match c.callee with
    | .builtin .append => match c.args.toList, c.argTypes.toList with
      | [x, y], [t, t'] => bif Nat.beq t t' then some (x, y, t) else none
      | _, _ => none
    | _ => none
  | _ => none
theorem es_app {x y : Operand} {t e n m : Nat} {sz' b'' : Nat} {zs'' xs ys : List CV} {inf : TInf} {hp0 hp1 : List (Nat × Ob)} {md : List Nat} {vx vy : AV} (hte : teOk E.P te = true) (hop : appOf o.op = some (x, y, t)) (ht : look t te = some ⟨.slice e, sz', b'', zs''⟩) (he : look e te = some inf)
    (hx : s.eval x = some vx) (hy : s.eval y = some vy) (hb : baseOf s e inf.sz vx = some (n, xs, hp0, md)) (hsr : srcOf hp0 vy = some (m, ys, hp1)) (hlx : xs.length = n * inf.sz) (hly : ys.length = m * inf.sz) (h63 : n + m ≤ maxLen) (hbytes : (n + m) * inf.by' ≤ 140737488355328)
    (hsz : Nat.blt 0 inf.sz = true) (hd : dok E.nt o.dst = true) (hQ : Q (({ fr := s.fr, hp := (s.nx, .arr e inf.sz (xs ++ ys)) :: hp1, nx := s.nx + 1 } : AS).putd o.dst (.h (.sl s.nx 0 (n + m))))) : ES E s o (some md) Q := by
  intro g im a w K QQ ⟨fps, hs⟩ hK
  have hsz' : 0 < inf.sz := Nat.lt_of_succ_le (Nat.le_of_ble_eq_true hsz)
  obtain ⟨us, fx, fr, f0, hown, hrx, hh0, hn0, hs0, hfx, hob, hob'⟩ := base_sound hs hb hlx (hs.eval hx)
  obtain ⟨A, c, ns, fy, f1, e2, hnl, hry, hh1, hn1, hs1, hA, hm0⟩ := src_sound hh0 (List.nodup_append.1 hn0).2.1 hsz' hsr hly (hs.eval hy)
  obtain ⟨v', w', hrun, hown', hgb, hblk⟩ := run_append hte ht he hsz' o.type (a.eval x) n us hown A m c ns hnl (RHs_one _ _ _ hry) hA h63 hbytes
  have hexec : (execOp a.eval o).run E.P w = .ok (.value v') w' := by
    unfold appOf at hop
    split at hop
    · rename_i c' ho
      split at hop
      · rename_i hc
        split at hop
        · rename_i x' y' t1 t2 hargs htys
          cases hbt : Nat.beq t1 t2 with
          | false => rw [hbt] at hop; simp at hop
          | true =>
            rw [hbt] at hop
            simp only [cond_true, Option.some.injEq, Prod.mk.injEq] at hop
            obtain ⟨rfl, rfl, rfl⟩ := hop
            obtain rfl : t1 = t2 := Nat.eq_of_beq_eq_true hbt
            have ha : ∀ {α : Type} {l : Array α} {l' : List α}, l.toList = l' → l = l'.toArray := fun h => by rw [← h]
            simp only [execOp, ho, resolve, hc, ha hargs, ha htys, invoke, builtin, Sem.run_bind, Sem.run_pure, Result.andThen_ok, List.map_toArray, List.map_cons, List.map_nil, e2, hrun]
        · cases hop
      · cases hop
    · cases hop
  -- the new object
  have hdis := (List.nodup_append.1 hn0).2.2
  have hfr : ∀ b ∈ fr, b ∈ fps := fun b hb => hs0 b (List.mem_append_left _ hb)
  have hf1 : ∀ b ∈ fy ++ f1, b ∈ fps := fun b hb => hs0 b (List.mem_append_right _ (hs1 b hb))
  have hk : ∀ b, b < w.heap.size → (a.eval x).ownBlock ≠ some b → w'.heap[b]? = w.heap[b]? := fun b h1 h2 => hgb.block b h1 (fun e => h2 e.symm)
  have hob1 : ∀ b, (a.eval x).ownBlock = some b → b ∈ fr := fun b h => by rw [(hob b h).1]; exact List.mem_cons_self
  have hnfr := (List.nodup_append.1 hn0).1
  have hxk : ∀ b ∈ fx, w'.heap[b]? = w.heap[b]? := fun b hb => hk b (hs.lt b (hfr b (hfx.subset hb))) fun e => by
    rw [(hob b e).1, List.nodup_cons] at hnfr
    exact hnfr.1 hb
  have hyk : ∀ b ∈ fy, w'.heap[b]? = w.heap[b]? := fun b hb => hk b (hs.lt b (hf1 b (List.mem_append_left _ hb))) fun e => hdis b (hob1 b e) b (hs1 b (List.mem_append_left _ hb)) rfl
  have hik : ∀ t b, im t b → im t b ∧ w'.heap[b]? = w.heap[b]? := fun t b h => ⟨h, hk b (hs.il t b h) fun e => hs.ni b (hfr b (hob1 b e)) t h⟩
  have hrx' := RHs_mono (fun _ _ h => h) hik _ _ _ hxk hrx
  have hry' := RHs_mono (fun _ _ h => h) hik _ _ _ hyk hry
  have hall : RHs g im w' ((xs ++ ys).map HV.c) (us ++ ns) (fx ++ fy) := by rw [List.map_append]; exact RHs_append _ _ _ _ _ _ hrx' hry'
  have hnxy : (fx ++ fy).Nodup := by
    rw [List.nodup_append]
    exact ⟨hnfr.sublist hfx, (List.nodup_append.1 hn1).1, fun a ha b hb e => hdis a (hfx.subset ha) b (hs1 b (List.mem_append_left _ hb)) e⟩
  -- which block
  have hbix : ∃ bi : BI, bi.ty = e ∧ bi.e = inf.sz ∧ n + m ≤ bi.cap ∧ bi.cap ≤ maxLen ∧ v' = slv bi.a (0 * bi.e) (n + m) (bi.cap - 0) ∧ bi.a = v'.ownBlock ∧
      ((bi.a = none ∧ xs ++ ys = [] ∧ bi.cap = 0 ∧ fx ++ fy = []) ∨ ∃ b cur, bi.a = some b ∧ w'.heap[b]? = some (.cells cur e (0, 0)) ∧ cur.size = bi.cap * inf.sz ∧ RL im w' b (xs ++ ys) 0 (fx ++ fy)) := by
    obtain ⟨h1, ⟨rfl, h2⟩ | ⟨b, cap, cur, rfl, _, h3, h4, h5, h6, h7⟩⟩ := hown'
    · refine ⟨⟨none, 0, e, inf.sz⟩, rfl, rfl, by simp; omega, Nat.zero_le _, by rw [h2]; rfl, rfl, .inl ⟨rfl, ?_, rfl, ?_⟩⟩
      · have : (xs ++ ys).length = 0 := by
          rw [List.length_append, hlx, hly]
          have hn0' : n = 0 := by omega
          have hm0' : m = 0 := by omega
          rw [hn0', hm0']
          simp
        exact List.eq_nil_of_length_eq_zero this
      · have e0 : us ++ ns = [] := List.eq_nil_of_length_eq_zero (by rw [h1, h2, Nat.zero_mul])
        have : (xs ++ ys).map HV.c = [] := by
          have := RHs_length _ _ _ hall
          rw [e0] at this
          exact List.eq_nil_of_length_eq_zero this.symm
        rw [this, e0] at hall
        exact hall.2
    · refine ⟨⟨some b, cap, e, inf.sz⟩, rfl, rfl, h4, h5, by simp [slv], rfl, .inr ⟨b, cur, rfl, h3, h6, RHs_RL _ _ 0 _ hall fun j u hj => ?_⟩⟩
      rw [Nat.zero_add, cell_of_row w' b j cur e (0, 0) h3, ← Array.getElem?_toList]
      rw [← h7, List.getElem?_take] at hj
      split at hj
      · exact hj
      · cases hj
  obtain ⟨bi, hty, hes, hcap, hmx, hv', hba, hro⟩ := hbix
  have hszle := hgb.size
  have hblt : ∀ b, bi.a = some b → b < w'.heap.size := by
    intro b hb
    rcases hro with ⟨h, _⟩ | ⟨b', cur, h1, h2, _⟩
    · rw [hb] at h; cases h
    · rw [hb] at h1
      injection h1 with h1
      subst h1
      exact (Array.getElem?_eq_some_iff.1 h2).1
  have hwhere : ∀ b, bi.a = some b → (a.eval x).ownBlock = some b ∨ w.heap.size = b := by
    intro b hb
    rw [hba] at hb
    rcases hblk with h | h
    · left; rw [← h]; exact hb
    · right; rw [h] at hb; injection hb
  -- the footprint
  have hperm : ∀ c ∈ (fr ++ fy) ++ f1, c ∈ fps := by
    intro c hc
    rcases List.mem_append.1 hc with hc | hc
    · rcases List.mem_append.1 hc with hc | hc
      · exact hfr c hc
      · exact hf1 c (List.mem_append_left _ hc)
    · exact hf1 c (List.mem_append_right _ hc)
  have hnn : ((fr ++ fy) ++ f1).Nodup := by
    rw [List.append_assoc, List.nodup_append]
    exact ⟨hnfr, hn1, fun a ha b hb e => hdis a ha b (hs1 b hb) e⟩
  let f' : List Nat := match bi.a with | some b => b :: (fx ++ fy) | none => []
  have hro' : RO (gup g s.nx bi) im w' bi (.arr e inf.sz (xs ++ ys)) f' := by
    refine ⟨hty, hes, ?_⟩
    rcases hro with ⟨h1, h2, h3, h4⟩ | ⟨b, cur, h1, h2, h3, h4⟩
    · left; exact ⟨h1, h2, h3, by simp only [f', h1]⟩
    · right; exact ⟨b, cur, fx ++ fy, h1, by simp only [f', h1], h2, h3, h4⟩
  have hnf' : f'.Nodup := by
    simp only [f']
    split
    · rename_i b hb
      rw [List.nodup_cons]
      refine ⟨fun hm => ?_, hnxy⟩
      rcases hwhere b hb with h | h
      · rcases List.mem_append.1 hm with hm | hm
        · rw [(hob b h).1, List.nodup_cons] at hnfr
          exact hnfr.1 hm
        · exact hdis b (hob1 b h) b (hs1 b (List.mem_append_left _ hm)) rfl
      · rcases List.mem_append.1 hm with hm | hm
        · have := hs.lt b (hfr b (hfx.subset hm)); omega
        · have := hs.lt b (hf1 b (List.mem_append_left _ hm)); omega
    · exact List.nodup_nil
  have hf'm : ∀ c ∈ f', c ∈ fr ++ fy ∨ w.heap.size ≤ c := by
    intro c hc
    simp only [f'] at hc
    split at hc
    · rename_i b hb
      rcases List.mem_cons.1 hc with rfl | hc
      · rcases hwhere _ hb with h | h
        · exact .inl (List.mem_append_left _ (hob1 _ h))
        · exact .inr (by omega)
      · rcases List.mem_append.1 hc with hc | hc
        · exact .inl (List.mem_append_left _ (hfx.subset hc))
        · exact .inl (List.mem_append_right _ hc)
    · cases hc
  have hf'l : ∀ c ∈ f', c < w'.heap.size := by
    intro c hc
    rcases hf'm c hc with h | h
    · have := hs.lt c (hperm c (List.mem_append_left _ h)); omega
    · simp only [f'] at hc
      split at hc
      · rename_i b hb
        rcases List.mem_cons.1 hc with rfl | hc
        · exact hblt _ hb
        · rcases List.mem_append.1 hc with hc | hc
          · have := hs.lt c (hfr c (hfx.subset hc)); omega
          · have := hs.lt c (hf1 c (List.mem_append_left _ hc)); omega
      · cases hc
  have hsim := hs.swap (fr := fr ++ fy) (f' := f') (w' := w') hh1 hnn hperm bi (.arr e inf.sz (xs ++ ys)) (fun b h1 h2 => hk b h1 fun e => h2 (List.mem_append_left _ (hob1 b e))) hszle hgb.os hgb.tape hgb.output hnf' hf'm hf'l hblt hro'
  unfold Oper.wp
  rw [hexec]
  refine hK _ im _ _ w' (fun b => (a.eval x).ownBlock = some b) ⟨_, hsim.putd (dok_lt hd) (v := v') ?_⟩ hQ (Chg.swap hs.gn (fun b hb => ?_) (fun b hb t => hs.ni b (hfr b (hob1 b hb)) t) (fun b hb => ?_) hszle) ?_
  · simp only [RA, RH]
    exact ⟨trivial, bi, by simp [gup], by omega, hmx, hv'⟩
  · rcases hwhere b hb with h | h
    · exact .inr h
    · exact .inl (by omega)
  · by_cases h : (a.eval x).ownBlock = some b
    · exact .inl h
    · exact .inr (hk b hb h)
  · intro m hm b hb
    injection hm with hm
    subst hm
    exact (hob b hb).2
end
end Go.Proofs.Ythmgfgiaagkdeaa
/- The engine, part k: regions that draw their order. What only computes and reads is taken as soon as it may come up; what acts must be alone. -/
namespace Go.Proofs.Ythmgfgiaagkdeaa
open Go.RowKit

section
variable {P : Program} {ops : Array Oper} {Q : Exit → Act → World → Prop} {md : Region.Mode} {T : World → World → Prop}
/-- In state 'a', in every world that may come from w, operation 'o' leaves 'v' and does nothing else. -/
def YT (P : Program) (ops : Array Oper) (T : World → World → Prop) (o : Oper) (v : Value) (a : Act) (w : World) : Prop :=
  (Region.wanted o (yielded ops a.tmps) = true ∧ ∀ w', T w w' → (execOp a.eval o).run P w' = .ok (.value v) w') ∨ (Region.wanted o (yielded ops a.tmps) = false ∧ v = undef)
theorem YT.wpOp {i : Nat} {o : Oper} {v : Value} {a : Act} {w : World} (hr : ∀ w, T w w) (hi : ops[i]? = some o) (hy : YT P ops T o v a w) {K : Act → World → Prop} (h : K (a.put o.dst v) w) : wpOp P ops Q i K a w := by
  unfold Go.wpOp
  simp only [hi]
  rcases hy with ⟨hw, hv⟩ | ⟨hw, rfl⟩
  · simp only [hw, if_true, Oper.wp, hv w (hr w), Oper.upon]; exact .inl h
  · simp only [hw, Bool.false_eq_true, if_false]; exact h
theorem YT.of_same {o : Oper} {v : Value} {a a' : Act} {w : World} (hy : YT P ops T o v a w) (he : execOp a'.eval o = execOp a.eval o) (hw : Region.wanted o (yielded ops a'.tmps) = Region.wanted o (yielded ops a.tmps)) : YT P ops T o v a' w := by
  unfold YT at *
  rw [he, hw]
  exact hy
theorem YT.step {o : Oper} {v : Value} {a : Act} {w w' : World} (ht : ∀ a b c, T a b → T b c → T a c) (hy : YT P ops T o v a w) (h : T w w') : YT P ops T o v a w' :=
  hy.imp (fun ⟨h1, h2⟩ => ⟨h1, fun w'' h3 => h2 w'' (ht _ _ _ h h3)⟩) id
theorem wpOp_putT {j : Nat} {oi oj : Oper} {v : Value} (hj : ops[j]? = some oj) (hap : oi.apart ops oj = true)
    (hsi : ∀ cs b, oi.op ≠ .select cs b) (hsj : ∀ cs b, oj.op ≠ .select cs b)
    (hQ : ∀ c a w, Q (.panic c) (a.put oi.dst v) w → Q (.panic c) a w) {K : Act → World → Prop} {a : Act} {w : World}
    (hy : YT P ops T oi v a w) (h : wpOp P ops Q j K (a.put oi.dst v) w) :
    wpOp P ops Q j (fun a' w' => YT P ops T oi v a' w ∧ K (a'.put oi.dst v) w') a w := by
  obtain ⟨h1, h2, h3⟩ := Oper.apart_spec hap
  have keep : ∀ (a : Act), YT P ops T oi v a w → ∀ u, YT P ops T oi v (a.put oj.dst u) w := fun a hy u =>
    hy.of_same (execOp_put oi hsi a oj.dst u h3) (wanted_put oi a oj.dst u h3)
  have keepD : ∀ d, YT P ops T oi v { a with defers := d :: a.defers } w := fun d => hy.of_same rfl rfl
  unfold wpOp at *
  simp only [hj] at *
  rw [wanted_put oj a oi.dst v h1] at h
  split
  · rename_i hw
    simp only [hw, if_true] at h
    rcases h with h | ⟨hasks, hlets⟩
    case inr => exact .inr ⟨by unfold Oper.asks at *; rw [execOp_put oj hsj a oi.dst v h1] at hasks; exact hasks, hlets⟩
    refine .inl ?_
    unfold Oper.wp at *
    rw [execOp_put oj hsj a oi.dst v h1] at h
    generalize (execOp a.eval oj).run P w = r at *
    cases r with
    | ok n w' =>
      cases n <;> simp only [Oper.upon] at h ⊢
      case value u => exact ⟨keep a hy u, by rw [← Act.put_comm a v u h2]; exact h⟩
      case skip => exact ⟨keep a hy _, by rw [← Act.put_comm a v undef h2]; exact h⟩
      case defer d =>
        refine ⟨YT.of_same (keepD d) (execOp_put oi hsi _ oj.dst undef h3) (wanted_put oi _ oj.dst undef h3), ?_⟩
        rw [← Act.put_comm _ v undef h2, ← Act.put_defers]
        exact h
      case enter f args =>
        refine Calls.mono h fun e w'' he => ?_
        cases e with
        | returned u => exact ⟨keep a hy u, by rw [← Act.put_comm a v u h2]; exact he⟩
        | panicked c => exact hQ _ _ _ he
        | outgrown => exact he
      case row row args => exact Rows.mono h fun u w'' he => ⟨keep a hy u, by rw [← Act.put_comm a v u h2]; exact he⟩
    | halt x w' =>
      cases x <;> simp only [Oper.upon] at h ⊢
      case panic u => exact hQ _ _ _ h
  · rename_i hw
    simp only [hw] at h
    exact ⟨keep a hy _, by rw [← Act.put_comm a v undef h2]; exact h⟩
/-- Whatever order is picked from here on, and every step is one of T. -/
def wpAnyT (P : Program) (md : Region.Mode) (ops : Array Oper) (Q : Exit → Act → World → Prop) (T : World → World → Prop) : Nat → Array Bool → Act → World → Prop
  | 0, listed, a, w => Region.ready md ops listed = [] ∧ Q .normal a w
  | fuel + 1, listed, a, w =>
    (Region.ready md ops listed = [] → Q .normal a w) ∧
    ∀ i ∈ Region.ready md ops listed, wpOp P ops Q i (fun a' w' => T w w' ∧ wpAnyT P md ops Q T fuel (listed.setIfInBounds i true) a' w') a w
theorem wpAny_of_T : ∀ (fuel : Nat) (listed : Array Bool) (a : Act) (w : World), wpAnyT P md ops Q T fuel listed a w → wpAny P md ops Q fuel listed a w
  | 0, _, _, _, h => h
  | fuel + 1, _, _, _, h => ⟨h.1, fun i hi => wpOp_mono (fun a' w' h' => wpAny_of_T fuel _ a' w' h'.2) (h.2 i hi)⟩
theorem wpAnyT_first {i : Nat} {oi : Oper} {v : Value} (hTr : ∀ w, T w w) (hTt : ∀ a b c, T a b → T b c → T a c) (hi : ops[i]? = some oi) (hsel : ∀ (j : Nat) (o : Oper) cs b, ops[j]? = some o → o.op ≠ .select cs b)
    (hQ : ∀ c a w, Q (.panic c) (a.put oi.dst v) w → Q (.panic c) a w) :
    ∀ (fuel : Nat) (listed : Array Bool) (a : Act) (w : World),
      (∀ j oj, ops[j]? = some oj → j ≠ i → listed.getD j true = false → (∀ e ∈ oj.after, Region.binds md e = true → e.on ≠ i) → oi.apart ops oj = true) →
      i ∈ Region.ready md ops listed → YT P ops T oi v a w →
      wpAnyT P md ops Q T fuel (listed.setIfInBounds i true) (a.put oi.dst v) w → wpAnyT P md ops Q T (fuel + 1) listed a w := by
  intro fuel
  induction fuel with
  | zero =>
    intro listed a w _ hr hy H
    refine ⟨fun h => (by rw [h] at hr; cases hr), fun j hj => ?_⟩
    by_cases hji : j = i
    · subst hji; exact hy.wpOp hTr hi ⟨hTr w, H⟩
    · have := ready_mono hj hji
      rw [H.1] at this
      cases this
  | succ fuel ih =>
    intro listed a w hfree hr hy H
    refine ⟨fun h => (by rw [h] at hr; cases hr), fun j hj => ?_⟩
    by_cases hji : j = i
    · subst hji; exact hy.wpOp hTr hi ⟨hTr w, H⟩
    · have h1 := H.2 j (ready_mono hj hji)
      obtain ⟨hjun, oj, hoj, hall⟩ := mem_ready.1 hj
      have hnot : ∀ e ∈ oj.after, Region.binds md e = true → e.on ≠ i := fun e he hb heq => by
        have h1 := hall e he hb
        have h0 := (mem_ready.1 hr).1
        rw [heq] at h1
        rcases Nat.lt_or_ge i listed.size with h' | h'
        · simp [h'] at h0 h1; rw [h0] at h1; cases h1
        · simp [Array.getElem?_eq_none h'] at h1
      have h2 := wpOp_putT hoj (hfree j oj hoj hji hjun hnot) (fun cs b => hsel i oi cs b hi) (fun cs b => hsel j oj cs b hoj) hQ hy h1
      have hfree' : ∀ k ok, ops[k]? = some ok → k ≠ i → (listed.setIfInBounds j true).getD k true = false →
          (∀ e ∈ ok.after, Region.binds md e = true → e.on ≠ i) → oi.apart ops ok = true := fun k ok hk hki hun hno => by
        refine hfree k ok hk hki ?_ hno
        by_cases hjk : j = k
        · subst hjk; exact hjun
        · rw [getD_set_ne true hjk] at hun; exact hun
      refine wpOp_mono (fun a' w' h3 => ⟨h3.2.1, ih (listed.setIfInBounds j true) a' w' hfree' (ready_mono hr (Ne.symm hji)) (h3.1.step hTt h3.2.1) ?_⟩) h2
      rw [Array.setIfInBounds_comm _ _ hji]
      exact h3.2.2
end

/-- The order in which the operations are taken: the number, and whether it only computes and reads. -/
def certOk (ops : Array Oper) : List (Nat × Bool) → Array Bool → Bool
  | [], listed => (Region.ready .any ops listed).isEmpty
  | (i, true) :: r, listed => (Region.ready .any ops listed).contains i && Region.free .any ops listed i && certOk ops r (listed.setIfInBounds i true)
  | (i, false) :: r, listed => (Region.ready .any ops listed == [i]) && certOk ops r (listed.setIfInBounds i true)
/-- The order as a tree: where two operations that act may both come up, either comes first. -/
inductive CT where
  | nil
  | cons (p : Nat × Bool) (r : CT)
  | fork (i j : Nat) (a b : CT)
def CT.len : CT → Nat
  | .nil => 0
  | .cons _ r => r.len + 1
  | .fork _ _ a _ => a.len + 1
def ctOk (ops : Array Oper) : CT → Array Bool → Bool
  | .nil, listed => (Region.ready .any ops listed).isEmpty
  | .cons (i, true) r, listed => (Region.ready .any ops listed).contains i && Region.free .any ops listed i && ctOk ops r (listed.setIfInBounds i true)
  | .cons (i, false) r, listed => (Region.ready .any ops listed == [i]) && ctOk ops r (listed.setIfInBounds i true)
  | .fork i j a b, listed => (Region.ready .any ops listed == [i, j]) && (Nat.beq a.len b.len && (ctOk ops a (listed.setIfInBounds i true) && ctOk ops b (listed.setIfInBounds j true)))
structure AJ (g : Ga) (im : Im) (w : World) (M : Nat → Prop) (n0 nr : Nat) (os ms : List Nat) (fl : Bool) : Prop where
  ai : AI g im M n0 (some os) fl
  on : ∀ i ∈ os, i < nr
  sz : n0 ≤ w.heap.size
  mn : ∀ b, M b → b < n0
  new : ∀ i bi b, nr ≤ i → g i = some bi → bi.a = some b → n0 ≤ b ∨ M b
  mds : ∀ i bi b, i ∈ ms → i < nr → g i = some bi → bi.a = some b → M b ∨ ∃ t, im t b
def NQ (k : AS → Prop) : Exit → AS → Prop := fun e s => e = .normal ∧ k s
def ctPre (ops : Array Oper) : CT → Array Bool → Bool
  | .cons (i, false) r, listed => ctOk ops r (listed.setIfInBounds i true)
  | .cons (i, true) r, listed => ctOk ops (.cons (i, true) r) listed
  | .nil, listed => ctOk ops .nil listed
  | .fork i j a b, listed => ctOk ops (.fork i j a b) listed
def AHW (P : Program) (ops : Array Oper) (Q : Exit → Act → World → Prop) (T : World → World → Prop) : CT → Array Bool → Act → World → Prop
  | .cons (i, false) r, listed, a, w => wpOp P ops Q i (fun a' w' => T w w' ∧ wpAnyT P .any ops Q T r.len (listed.setIfInBounds i true) a' w') a w
  | .cons (i, true) r, listed, a, w => wpAnyT P .any ops Q T (CT.cons (i, true) r).len listed a w
  | .nil, listed, a, w => wpAnyT P .any ops Q T CT.nil.len listed a w
  | .fork i j a' b, listed, a, w => wpAnyT P .any ops Q T (CT.fork i j a' b).len listed a w
theorem ctPre_of {ops : Array Oper} {c : CT} {listed : Array Bool} (h : ctOk ops c listed = true) : ctPre ops c listed = true := by
  cases c with
  | nil => exact h
  | cons p r =>
    obtain ⟨i, b⟩ := p
    cases b with
    | true => exact h
    | false => simp only [ctOk, Bool.and_eq_true] at h; exact h.2
  | fork => exact h
theorem AHW_any {P : Program} {ops : Array Oper} {Q : Exit → Act → World → Prop} {T : World → World → Prop} {c : CT} {listed : Array Bool} {a : Act} {w : World} (hc : ctOk ops c listed = true) (h : AHW P ops Q T c listed a w) : wpAnyT P .any ops Q T c.len listed a w := by
  cases c with
  | nil => exact h
  | cons p r =>
    obtain ⟨i, b⟩ := p
    cases b with
    | true => exact h
    | false =>
      simp only [ctOk, Bool.and_eq_true, beq_iff_eq] at hc
      obtain ⟨hr, _⟩ := hc
      refine ⟨fun h => (by rw [hr] at h; cases h), fun j hj => ?_⟩
      rw [hr] at hj
      simp only [List.mem_singleton] at hj
      subst hj
      exact h
  | fork => exact h
/-- A region that draws, from a place of the order on. nr: the first object that the region makes; ms: the objects that it may write; fl: nothing has been laid open to reading since it began. -/
def AH (E : Env) (l : List Oper) (cert : CT) (nr : Nat) (os ms : List Nat) (fl : Bool) (s : AS) (k : AS → Prop) : Prop :=
  Region.noSelect l.toArray = true → ∀ listed, ctPre l.toArray cert listed = true → ∀ g im a w M n0, Sim E g im s a w → AJ g im w M n0 nr os ms fl → nr ≤ s.nx →
    AHW E.P l.toArray (Lift E (NQ k)) (TrM M n0) cert listed a w
theorem AH.any {E : Env} {l : List Oper} {cert : CT} {nr : Nat} {os ms : List Nat} {fl : Bool} {s : AS} {k : AS → Prop} (h : AH E l cert nr os ms fl s k) (hsel : Region.noSelect l.toArray = true) (listed : Array Bool) (hc : ctOk l.toArray cert listed = true) (g : Ga) (im : Im) (a : Act) (w : World) (M : Nat → Prop) (n0 : Nat) (hs : Sim E g im s a w) (hJ : AJ g im w M n0 nr os ms fl) (hnr : nr ≤ s.nx) :
    wpAnyT E.P .any l.toArray (Lift E (NQ k)) (TrM M n0) cert.len listed a w := AHW_any hc (h hsel listed (ctPre_of hc) g im a w M n0 hs hJ hnr)
theorem TrM_refl (M : Nat → Prop) (n0 : Nat) (w : World) : TrM M n0 w w := fun _ _ _ => rfl
theorem TrM_trans (M : Nat → Prop) (n0 : Nat) (a b c : World) (h : TrM M n0 a b) (h' : TrM M n0 b c) : TrM M n0 a c := fun x h1 h2 => (h' x h1 h2).trans (h x h1 h2)
theorem nq_panic {E : Env} {k : AS → Prop} (c : List PanicEntry) (a a' : Act) (w : World) (h : Lift E (NQ k) (.panic c) a w) : Lift E (NQ k) (.panic c) a' w := by
  obtain ⟨g, im, s, h1, h2, h3⟩ := h
  cases h2
section
variable {E : Env} {l : List Oper} {cert : CT} {nr : Nat} {os ms : List Nat} {fl : Bool} {s : AS} {k : AS → Prop}
theorem ah_nil (h : k s) : AH E l CT.nil nr os ms fl s k := by
  intro hsel listed hc g im a w M n0 hs hJ hnr
  simp only [ctPre, ctOk, List.isEmpty_iff] at hc
  exact ⟨hc, g, im, s, hs, rfl, h⟩
theorem ah_ps {i : Nat} {oi : Oper} {x : AV} (hi : nth l i = some oi) (h : PS E (some os) fl s oi.op x) (hg : gdv l s oi = some true) (hd : dok E.nt oi.dst = true) (kk : AH E l cert nr os ms fl (s.putd oi.dst x) k) : AH E l (CT.cons (i, true) cert) nr os ms fl s k := by
  intro hsel listed hc g im a w M n0 ⟨fps, hs⟩ hJ hnr
  simp only [ctPre, ctOk, Bool.and_eq_true] at hc
  obtain ⟨⟨hr, hf⟩, hc'⟩ := hc
  have hi' : l.toArray[i]? = some oi := by rw [List.getElem?_toArray, ← nth_eq]; exact hi
  obtain ⟨v, hv, hrun⟩ := h g im a w M n0 ⟨fps, hs⟩ hJ.ai
  refine wpAnyT_first (TrM_refl M n0) (TrM_trans M n0) hi' (Region.noSelect_spec hsel) (fun c a w h => nq_panic c _ _ w h) _ listed a w (Region.free_spec hi' hf) (by simpa using hr) (.inl ⟨wanted_of hs hg, fun w' hw' => hrun w' hw' oi rfl⟩) ?_
  exact kk.any hsel _ hc' g im _ w M n0 ⟨fps, hs.putd (dok_lt hd) hv⟩ hJ (by cases hdd : oi.dst <;> simpa [AS.putd, AS.put] using hnr)
theorem ah_skip {i : Nat} {b : Bool} {oi : Oper} (hi : nth l i = some oi) (hg : gdv l s oi = some false) (hd : dok E.nt oi.dst = true) (kk : AH E l cert nr os ms fl (s.putd oi.dst (.tup [])) k) : AH E l (CT.cons (i, b) cert) nr os ms fl s k := by
  intro hsel listed hc g im a w M n0 ⟨fps, hs⟩ hJ hnr
  have hi' : l.toArray[i]? = some oi := by rw [List.getElem?_toArray, ← nth_eq]; exact hi
  have hsim : SimF E g im fps (s.putd oi.dst (.tup [])) (a.put oi.dst undef) w := hs.putd (dok_lt hd) (by simp only [RA]; exact ⟨[], rfl, by simp [RAs]⟩)
  have hnr' : nr ≤ (s.putd oi.dst (.tup [])).nx := by cases hdd : oi.dst <;> simpa [AS.putd, AS.put] using hnr
  cases b with
  | true =>
    simp only [ctPre, ctOk, Bool.and_eq_true] at hc
    obtain ⟨⟨hr, hf⟩, hc'⟩ := hc
    exact wpAnyT_first (v := undef) (TrM_refl M n0) (TrM_trans M n0) hi' (Region.noSelect_spec hsel) (fun c a w h => nq_panic c _ _ w h) _ listed a w (Region.free_spec hi' hf) (by simpa using hr) (.inr ⟨wanted_of hs hg, rfl⟩) (kk.any hsel _ hc' g im _ w M n0 ⟨fps, hsim⟩ hJ hnr')
  | false =>
    have hc' : ctOk l.toArray cert (listed.setIfInBounds i true) = true := hc
    simp only [AHW]
    unfold wpOp
    simp only [hi']
    rw [if_neg (by rw [wanted_of hs hg]; simp)]
    exact ⟨TrM_refl M n0 w, kk.any hsel _ hc' g im _ w M n0 ⟨fps, hsim⟩ hJ hnr'⟩
theorem ah_es {i : Nat} {oi : Oper} {m : List Nat} {Q' : AS → Prop} (hi : nth l i = some oi) (h : ES E s oi (some m) Q') (hg : gdv l s oi = some true) (hm : m.all (fun id => ms.contains id || Nat.ble nr id) = true) (hnx : ∀ s', Q' s' → s.nx ≤ s'.nx) (kk : ∀ s', Q' s' → AH E l cert nr os ms false s' k) : AH E l (CT.cons (i, false) cert) nr os ms fl s k := by
  intro hsel listed hc g im a w M n0 ⟨fps, hs⟩ hJ hnr
  have hi' : l.toArray[i]? = some oi := by rw [List.getElem?_toArray, ← nth_eq]; exact hi
  have hc' : ctOk l.toArray cert (listed.setIfInBounds i true) = true := hc
  simp only [AHW]
  unfold wpOp
  simp only [hi']
  rw [if_pos (wanted_of hs hg)]
  refine .inl (h g im a w _ _ ⟨fps, hs⟩ ?_)
  intro g' im' s' a' w' F hs' hq hch hof
  have hF : ∀ b, F b → b < n0 → M b := by
    intro b hb hlt
    obtain ⟨id, hid, bi, h1, h2⟩ := hof m rfl b hb
    have := List.all_eq_true.1 hm id hid
    simp only [Bool.or_eq_true] at this
    by_cases hidn : id < nr
    · rcases this with h3 | h3
      · rcases hJ.mds id bi b (by simpa using h3) hidn h1 h2 with h4 | ⟨t, h4⟩
        · exact h4
        · exact absurd h4 (hch.fi b hb t)
      · have := Nat.le_of_ble_eq_true h3; omega
    · rcases hJ.new id bi b (by omega) h1 h2 with h4 | h4
      · omega
      · exact h4
  have hT : TrM M n0 w w' := by
    intro b hb hMb
    have := hJ.sz
    rcases hch.ch b (by omega) with h1 | h1
    · exact absurd (hF b h1 hb) hMb
    · exact h1
  refine ⟨hT, (kk s' hq).any hsel _ hc' g' im' a' w' M n0 hs' ?_ (Nat.le_trans hnr (hnx s' hq))⟩
  have hsz := hJ.sz
  have hgold : ∀ i bi, i < nr → g' i = some bi → g i = some bi := fun i bi h1 h2 => by rw [← hch.gx i (by omega)]; exact h2
  refine ⟨⟨?_, ?_, ?_⟩, hJ.on, Nat.le_trans hJ.sz hch.sz, hJ.mn, ?_, ?_⟩
  · intro t b h1 h2
    rcases hch.imn t b h1 with h3 | ⟨_, h3⟩
    · exact hJ.ai.imM t b h3 h2
    · have := hJ.mn b h2; omega
  · intro t b h1 h2
    rcases h1 with h1 | h1
    · cases h1
    · rcases hch.imn t b h2 with h3 | ⟨h3, _⟩
      · exact hJ.ai.imo t b (.inr h1) h3
      · exact absurd h3 h1
  · intro id h1 bi b h3 h4
    exact hJ.ai.old id h1 bi b (hgold id bi (hJ.on id (by simpa [okid] using h1)) h3) h4
  · intro i bi b h1 h2 h3
    by_cases hin : i < s.nx
    · exact hJ.new i bi b h1 (by rw [← hch.gx i hin]; exact h2) h3
    · rcases hch.gn i bi b (by omega) h2 h3 with h4 | h4
      · left; omega
      · by_cases hlt : b < n0
        · exact .inr (hF b h4 hlt)
        · left; omega
  · intro i bi b h1 h2 h3 h4
    rcases hJ.mds i bi b h1 h2 (hgold i bi h2 h3) h4 with h5 | ⟨t, h5⟩
    · exact .inl h5
    · exact .inr ⟨t, hch.imm t b h5⟩
/-- Two operations that act may come up: either comes first. -/
theorem ah_fork {i j : Nat} {c1 c2 : CT} (h1 : AH E l (CT.cons (i, false) c1) nr os ms fl s k) (h2 : AH E l (CT.cons (j, false) c2) nr os ms fl s k) : AH E l (CT.fork i j c1 c2) nr os ms fl s k := by
  intro hsel listed hc g im a w M n0 hs hJ hnr
  simp only [ctPre, ctOk, Bool.and_eq_true, beq_iff_eq] at hc
  obtain ⟨hr, hl, hc1, hc2⟩ := hc
  have hl' := Nat.eq_of_beq_eq_true hl
  refine ⟨fun h => (by rw [hr] at h; cases h), fun q hq => ?_⟩
  rw [hr] at hq
  simp only [List.mem_cons, List.not_mem_nil, or_false] at hq
  rcases hq with rfl | rfl
  · exact h1 hsel listed hc1 g im a w M n0 hs hJ hnr
  · have := h2 hsel listed hc2 g im a w M n0 hs hJ hnr
    rw [hl']
    exact this
theorem ah_split (d : Nat) {b : Bool} (hb : look d s.fr = some (.h (.c (.bool b)))) (kt : b = true → AH E l cert nr os ms fl (s.put d (.h (.c (.bool true)))) k) (kf : b = false → AH E l cert nr os ms fl (s.put d (.h (.c (.bool false)))) k) : AH E l cert nr os ms fl s k := by
  intro hsel listed hc g im a w M n0 ⟨fps, hs⟩ hJ hnr
  have := put_same hs hb
  cases b with
  | true => exact kt rfl hsel listed hc g im a w M n0 ⟨fps, this⟩ hJ hnr
  | false => exact kf rfl hsel listed hc g im a w M n0 ⟨fps, this⟩ hJ hnr
theorem HR_apart {g : Ga} {im : Im} {w : World} : ∀ (hp : List (Nat × Ob)) (fps : List Nat), HR g im w hp fps → fps.Nodup → ∀ i j oi oj bi bj b, look i hp = some oi → look j hp = some oj → i ≠ j → g i = some bi → g j = some bj → bi.a = some b → bj.a = some b → False := by
  intro hp fps h hn i j oi oj bi bj b h1 h2 hne hg1 hg2 hb1 hb2
  obtain ⟨bi', f1, f2, f3, hg, rfl, hro, hd⟩ := HR_del h h1
  obtain rfl : bi = bi' := by rw [hg1] at hg; exact Option.some.inj hg
  have h2' : look j (del i hp) = some oj := by
    clear h hd hro hn
    induction hp with
    | nil => simp [look] at h2
    | cons p r ih =>
      obtain ⟨q, x⟩ := p
      by_cases hqi : i = q
      · subst hqi
        rw [look_cons_ne (Ne.symm hne)] at h2
        simp only [del, Nat.beq_refl, cond_true]
        exact h2
      · have hbf : Nat.beq i q = false := by
          cases hb : Nat.beq i q with
          | false => rfl
          | true => exact absurd (Nat.eq_of_beq_eq_true hb) hqi
        simp only [del, hbf, cond_false]
        rw [look_cons_ne hqi] at h1
        by_cases hqj : j = q
        · subst hqj
          rw [look_cons_eq] at h2 ⊢
          exact h2
        · rw [look_cons_ne hqj] at h2 ⊢
          exact ih h1 h2
  obtain ⟨bj', f4, f5, f6, hg', hf, hro', _⟩ := HR_del hd h2'
  obtain rfl : bj = bj' := by rw [hg2] at hg'; exact Option.some.inj hg'
  have m1 := RO_mem hro hb1
  have m2 := RO_mem hro' hb2
  have m3 : b ∈ f1 ++ f3 := by rw [hf]; exact List.mem_append_right _ (List.mem_append_left _ m2)
  rw [List.nodup_append] at hn
  obtain ⟨n1, n2, n3⟩ := hn
  rw [List.nodup_append] at n2
  rcases List.mem_append.1 m3 with h | h
  · exact n3 b h b (List.mem_append_left _ m1) rfl
  · exact n2.2.2 b m1 b h rfl
theorem wpAny_imp {P : Program} {ops : Array Oper} {md : Region.Mode} {Q Q' : Exit → Act → World → Prop} (h : ∀ e a w, Q e a w → Q' e a w) : ∀ (fuel : Nat) (listed : Array Bool) (a : Act) (w : World), wpAny P md ops Q fuel listed a w → wpAny P md ops Q' fuel listed a w
  | 0, _, _, _, hh => ⟨hh.1, h _ _ _ hh.2⟩
  | fuel + 1, listed, a, w, hh => by
    refine ⟨fun h0 => h _ _ _ (hh.1 h0), fun i hi => ?_⟩
    have := hh.2 i hi
    unfold wpOp at this ⊢
    split
    · rename_i hn; rw [hn] at this; exact wpAny_imp h fuel _ _ _ this
    · rename_i o ho
      rw [ho] at this
      simp only at this
      split
      · rename_i hw
        rw [if_pos hw] at this
        rcases this with h1 | ⟨h1, a', w', h2⟩
        · refine .inl ?_
          unfold Oper.wp at h1 ⊢
          generalize (execOp a.eval o).run P w = r at *
          cases r with
          | ok n w' =>
            cases n <;> simp only [Oper.upon] at h1 ⊢ <;>
              first
                | exact wpAny_imp h fuel _ _ _ h1
                | exact Calls.mono h1 (fun e w'' he => by
                    cases e with
                    | returned u => exact wpAny_imp h fuel _ _ _ he
                    | panicked c => exact h _ _ _ he
                    | outgrown => obtain ⟨a', w', h2⟩ := he; exact ⟨a', w', h _ _ _ h2⟩)
                | exact Rows.mono h1 (fun _ _ he => wpAny_imp h fuel _ _ _ he)
          | halt x w' => cases x <;> simp only [Oper.upon] at h1 ⊢ <;> exact h _ _ _ h1
        · exact .inr ⟨h1, a', w', h _ _ _ h2⟩
      · rename_i hw
        rw [if_neg hw] at this
        exact wpAny_imp h fuel _ _ _ this
def osOf (s : AS) (ms : List Nat) : List Nat := (s.hp.map (·.1)).filter fun i => !ms.contains i && Nat.blt i s.nx
/-- **A region that draws its order.** -/
theorem awp_draw {id : Nat} {Q : Exit → AS → Prop} (cert : CT) (ms : List Nat) (hm : E.P.follows .mixedOrders = true) (hsel : Region.noSelect l.toArray = true) (hc : ctOk l.toArray cert (Array.replicate l.length false) = true) (hl : Nat.beq cert.len l.length = true) (hms : ms.all (fun i => (look i s.hp).isSome) = true)
    (h : AH E l cert s.nx (osOf s ms) ms true s (fun s' => XT .normal s' Q)) : AWP E (.region id l.toArray true) s Q := by
  intro g im a w ⟨fps, hs⟩
  refine wp_region_any hm ?_
  have hlen := Nat.eq_of_beq_eq_true hl
  let M : Nat → Prop := fun b => (∃ id ∈ ms, ∃ bi, g id = some bi ∧ bi.a = some b) ∧ ∀ t, ¬ im t b
  let w1 : World := { w with drawn := w.drawn + 1 }
  have hs1 : SimF E g im fps s a w1 := hs.world (fun _ _ => rfl) (Nat.le_refl _) (hs.kp.trans_same rfl rfl rfl (Nat.le_refl _) fun _ _ => .inr rfl)
  have hJ : AJ g im w1 M w1.heap.size s.nx (osOf s ms) ms true := by
    refine ⟨⟨fun t b h1 h2 => h2.2 t h1, fun t b _ => hs1.il t b, fun id h1 bi b h3 h4 => ⟨hs1.gl id bi b h3 h4, ?_⟩⟩, ?_, Nat.le_refl _, ?_, ?_, ?_⟩
    · rintro ⟨⟨id', h5, bi', h6, h7⟩, h8⟩
      have hid : id ∈ osOf s ms := by simpa [okid] using h1
      simp only [osOf, List.mem_filter, Bool.and_eq_true, Bool.not_eq_true'] at hid
      obtain ⟨hid1, hid2, _⟩ := hid
      have hne : id ≠ id' := by
        rintro rfl
        have : ms.contains id = true := by simpa using h5
        rw [this] at hid2
        cases hid2
      obtain ⟨oj, hoj⟩ := Option.isSome_iff_exists.1 (List.all_eq_true.1 hms id' h5)
      have : ∃ oi, look id s.hp = some oi := by
        clear hms h
        revert hid1
        generalize s.hp = hp
        intro hid1
        induction hp with
        | nil => simp at hid1
        | cons p r ih =>
          obtain ⟨q, x⟩ := p
          by_cases hq : id = q
          · subst hq; exact ⟨x, look_cons_eq _ _ _⟩
          · rw [look_cons_ne hq]
            simp only [List.map_cons, List.mem_cons] at hid1
            exact ih (hid1.resolve_left hq)
      obtain ⟨oi, hoi⟩ := this
      exact HR_apart _ _ hs1.hp hs1.nd id id' oi oj bi bi' b hoi hoj hne h3 h6 h4 h7
    · intro i hi
      simp only [osOf, List.mem_filter, Bool.and_eq_true] at hi
      exact Nat.lt_of_succ_le (Nat.le_of_ble_eq_true hi.2.2)
    · rintro b ⟨⟨id', h5, bi', h6, h7⟩, _⟩
      exact hs1.gl id' bi' b h6 h7
    · intro i bi b h1 h2 _
      rw [hs1.gn i h1] at h2; cases h2
    · intro i bi b h1 h2 h3 h4
      by_cases hb : ∃ t, im t b
      · exact .inr hb
      · exact .inl ⟨⟨i, h1, bi, h3, h4⟩, fun t ht => hb ⟨t, ht⟩⟩
  have := h.any hsel _ hc g im a w1 M w1.heap.size ⟨fps, hs1⟩ hJ (Nat.le_refl _)
  rw [hlen] at this
  have hsz : l.toArray.size = l.length := by simp
  rw [hsz]
  refine wpAny_imp ?_ _ _ _ _ (wpAny_of_T _ _ _ _ this)
  rintro e a' w' ⟨g', im', s', h1, rfl, h3⟩
  exact ⟨g', im', s', h1, h3⟩
end
end Go.Proofs.Ythmgfgiaagkdeaa
