/- The engine, part d: lists of operations, code, loops, forgetting and renaming. -/
import Derived.Test.YtjijkdhjfanpaaaEc
namespace Go.Proofs.Ytjijkdhjfanpaaa
open Go.RowKit

/-! ### forgetting, renaming -/
def sg (r : List (Nat × Nat)) (nx : Nat) (j : Nat) : Nat := match look j r with | some i => i | none => nx + j
def HV.ren (f : Nat → Nat) : HV → HV
  | .c x => .c x
  | .sl id i n => .sl (f id) i n
  | .sw id i n => .sw (f id) i n
  | .ptr id o => .ptr (f id) o
  | .rp t xs => .rp t xs
def HV.rens (f : Nat → Nat) : List HV → List HV
  | [] => []
  | x :: xs => x.ren f :: HV.rens f xs
mutual
def AV.ren (f : Nat → Nat) : AV → AV
  | .h x => .h (x.ren f)
  | .agg xs => .agg (HV.rens f xs)
  | .tup xs => .tup (AV.rens f xs)
  | .top => .top
def AV.rens (f : Nat → Nat) : List AV → List AV
  | [] => []
  | x :: xs => x.ren f :: AV.rens f xs
end
def Ob.ren (f : Nat → Nat) : Ob → Ob
  | .arr ty e xs => .arr ty e xs
  | .box ty xs => .box ty (HV.rens f xs)
  | .hrr ty e xs => .hrr ty e (HV.rens f xs)
section
variable {g : Ga} {im : Im} {w : World} {f : Nat → Nat}
theorem RH_ren {x : HV} {v : Value} {fp : List Nat} (h : RH g im w (x.ren f) v fp) : RH (fun j => g (f j)) im w x v fp := by
  cases x <;> exact h
theorem RHs_ren : ∀ (xs : List HV) (vs : List Value) (fp : List Nat), RHs g im w (HV.rens f xs) vs fp → RHs (fun j => g (f j)) im w xs vs fp
  | [], vs, fp, h => h
  | x :: xs, vs, fp, h => by
    obtain ⟨v, vs', f1, f2, rfl, rfl, h1, h2⟩ := h
    exact ⟨v, vs', f1, f2, rfl, rfl, RH_ren h1, RHs_ren xs vs' f2 h2⟩
mutual
theorem RA_ren : ∀ (x : AV) (v : Value) (fp : List Nat), RA g im w (x.ren f) v fp → RA (fun j => g (f j)) im w x v fp
  | .h x, v, fp, h => by simp only [RA, AV.ren] at h ⊢; exact RH_ren h
  | .agg xs, v, fp, h => by
    simp only [RA, AV.ren] at h ⊢
    obtain ⟨cs, h1, h2⟩ := h
    exact ⟨cs, h1, RHs_ren xs cs fp h2⟩
  | .tup xs, v, fp, h => by
    simp only [RA, AV.ren] at h ⊢
    obtain ⟨cs, h1, h2⟩ := h
    exact ⟨cs, h1, RAs_ren xs cs fp h2⟩
  | .top, v, fp, h => by simpa only [RA, AV.ren] using h
theorem RAs_ren : ∀ (xs : List AV) (vs : List Value) (fp : List Nat), RAs g im w (AV.rens f xs) vs fp → RAs (fun j => g (f j)) im w xs vs fp
  | [], vs, fp, h => by simpa only [RAs, AV.rens] using h
  | x :: xs, vs, fp, h => by
    simp only [RAs, AV.rens] at h ⊢
    obtain ⟨v, vs', f1, f2, rfl, rfl, h1, h2⟩ := h
    exact ⟨v, vs', f1, f2, rfl, rfl, RA_ren x v f1 h1, RAs_ren xs vs' f2 h2⟩
end
theorem RO_ren {bi : BI} {o : Ob} {fp : List Nat} (h : RO g im w bi (o.ren f) fp) : RO (fun j => g (f j)) im w bi o fp := by
  cases o with
  | arr ty e xs => exact h
  | box ty xs =>
    obtain ⟨b, cs, f', h4, rfl, h6, h8⟩ := h
    exact ⟨b, cs, f', h4, rfl, h6, RHs_ren xs cs f' h8⟩
  | hrr ty e xs =>
    obtain ⟨h1, h2, h3 | ⟨b, cur, f', us, h4, rfl, h6, h7, h8, h9⟩⟩ := h
    · obtain ⟨q1, q2, q3, q4⟩ := h3
      refine ⟨h1, h2, .inl ⟨q1, ?_, q3, q4⟩⟩
      cases xs with
      | nil => rfl
      | cons x xs => cases q2
    · exact ⟨h1, h2, .inr ⟨b, cur, f', us, h4, rfl, h6, h7, RHs_ren xs us f' h8, h9⟩⟩
end
def LeF (f : Nat → Nat) (fr : List (Nat × AV)) : List (Nat × AV) → Prop
  | [] => True
  | (t, x) :: r => look t fr = some (x.ren f) ∧ LeF f fr r
def LeH (f : Nat → Nat) : List (Nat × Ob) → List (Nat × Ob) → Prop
  | [], _ => True
  | (j, o) :: r, hp => look (f j) hp = some (o.ren f) ∧ LeH f r (del (f j) hp)
/-- The objects that were handed over keep their names. -/
def fixk (r : List (Nat × Nat)) : Nat → Bool
  | 0 => true
  | k + 1 => (match look k r with | some i => Nat.beq i k | none => false) && fixk r k
theorem fixk_sg {r : List (Nat × Nat)} {nx : Nat} : ∀ {k : Nat}, fixk r k = true → ∀ j, j < k → sg r nx j = j
  | 0, _, j, hj => absurd hj (by omega)
  | k + 1, h, j, hj => by
    simp only [fixk, Bool.and_eq_true] at h
    by_cases hjk : j = k
    · subst hjk
      unfold sg
      have h1 := h.1
      cases hl : look j r with
      | none => rw [hl] at h1; simp at h1
      | some i => rw [hl] at h1; exact Nat.eq_of_beq_eq_true h1
    · exact fixk_sg h.2 j (by omega)
/-- State s holds all that state s' says, an object of s' being the one of s that r names. -/
structure Le (k : Nat) (r : List (Nat × Nat)) (s s' : AS) : Prop where
  ks : r.all (fun p => Nat.blt p.1 s'.nx) = true
  kk : fixk r k = true
  kn : Nat.ble k s'.nx = true
  fr : LeF (sg r s.nx) s.fr s'.fr
  hp : LeH (sg r s.nx) s'.hp s.hp
theorem LeF_look {f : Nat → Nat} {fr : List (Nat × AV)} : ∀ {l : List (Nat × AV)}, LeF f fr l → ∀ t x, look t l = some x → look t fr = some (x.ren f)
  | [], _, t, x, h => by simp [look] at h
  | (s, y) :: r, ⟨h1, h2⟩, t, x, h => by
    by_cases ht : t = s
    · subst ht
      rw [look_cons_eq] at h
      injection h with h; subst h
      exact h1
    · rw [look_cons_ne ht] at h
      exact LeF_look h2 t x h
theorem HR_del {g : Ga} {im : Im} {w : World} {hp : List (Nat × Ob)} {fps : List Nat} (h : HR g im w hp fps) {id : Nat} {o : Ob} (hl : look id hp = some o) :
    ∃ bi f1 f2 f3, g id = some bi ∧ fps = f1 ++ (f2 ++ f3) ∧ RO g im w bi o f2 ∧ HR g im w (del id hp) (f1 ++ f3) := by
  obtain ⟨l1, l2, rfl, _, hd⟩ := look_split hl
  obtain ⟨f1, f2, rfl, ha, h2⟩ := (HR_append _ _ _).1 h
  obtain ⟨bi, f3, f4, h3, rfl, h5, h6⟩ := h2
  refine ⟨bi, f1, f3, f4, h3, rfl, h5, ?_⟩
  rw [hd]
  exact (HR_append _ _ _).2 ⟨f1, f4, rfl, ha, h6⟩
theorem LeH_HR {g : Ga} {im : Im} {w : World} {f : Nat → Nat} : ∀ (l hp : List (Nat × Ob)) (fps : List Nat), HR g im w hp fps → LeH f l hp → fps.Nodup → ∃ fps', HR (fun j => g (f j)) im w l fps' ∧ fps'.Nodup ∧ ∀ b ∈ fps', b ∈ fps
  | [], hp, fps, _, _, _ => ⟨[], rfl, List.nodup_nil, by simp⟩
  | (j, o) :: r, hp, fps, h, ⟨h1, h2⟩, hn => by
    obtain ⟨bi, f1, f2, f3, hg, rfl, hro, hd⟩ := HR_del h h1
    have hn' : (f1 ++ f3).Nodup := hn.sublist (List.Sublist.append (List.Sublist.refl _) (List.sublist_append_right _ _))
    obtain ⟨fps', h4, h5, h6⟩ := LeH_HR r _ _ hd h2 hn'
    refine ⟨f2 ++ fps', ⟨bi, f2, fps', hg, rfl, RO_ren hro, h4⟩, ?_, ?_⟩
    · rw [List.nodup_append] at hn ⊢
      obtain ⟨n1, n2, n3⟩ := hn
      rw [List.nodup_append] at n2
      refine ⟨n2.1, h5, fun a ha b hb => ?_⟩
      have := h6 b hb
      rcases List.mem_append.1 this with hb1 | hb3
      · exact (n3 b hb1 a (List.mem_append_left _ ha)).symm
      · exact n2.2.2 a ha b hb3
    · intro b hb
      rcases List.mem_append.1 hb with hb | hb
      · exact List.mem_append_right _ (List.mem_append_left _ hb)
      · rcases List.mem_append.1 (h6 b hb) with hb | hb
        · exact List.mem_append_left _ hb
        · exact List.mem_append_right _ (List.mem_append_right _ hb)
theorem Le.sim {E : Env} {r : List (Nat × Nat)} {s s' : AS} (h : Le E.k r s s') {g : Ga} {im : Im} {a : Act} {w : World} (hs : Sim E g im s a w) : Sim E (fun j => g (sg r s.nx j)) im s' a w := by
  obtain ⟨fps, hs⟩ := hs
  obtain ⟨fps', h1, h2, h3⟩ := LeH_HR _ _ _ hs.hp h.hp hs.nd
  refine ⟨fps', hs.dfr, hs.sz, ?_, h1, h2, fun b hb => hs.lt b (h3 b hb), fun b hb => hs.ni b (h3 b hb), fun b hb => hs.mine b (h3 b hb), ?_, fun i bi b h1 h2 => hs.gl _ bi b h1 h2, hs.il, hs.kp, Nat.le_of_ble_eq_true h.kn, ?_, hs.i0, hs.i1⟩
  · intro t x hx
    exact RA_ren x _ [] (hs.fr t _ (LeF_look h.fr t x hx))
  · intro j hj
    apply hs.gn
    unfold sg
    cases hl : look j r with
    | none => simp
    | some i =>
      exfalso
      obtain ⟨l1, l2, hl, _⟩ := look_split hl
      have := List.all_eq_true.1 h.ks (j, i) (by rw [hl]; simp)
      have : j < s'.nx := Nat.lt_of_succ_le (Nat.le_of_ble_eq_true this)
      omega
  · intro i hi
    show g (sg r s.nx i) = _
    rw [fixk_sg h.kk i hi]
    exact hs.g0 i hi

/-! ### judgements -/
def Lift (E : Env) (Q : Exit → AS → Prop) : Exit → Act → World → Prop := fun e a w => ∃ g im s, Sim E g im s a w ∧ Q e s
def AWP (E : Env) (c : Code) (s : AS) (Q : Exit → AS → Prop) : Prop := ∀ g im a w, Sim E g im s a w → c.wp E.P (Lift E Q) a w
def AL (E : Env) (l : List Oper) (rest : List Oper) (s : AS) (Q : Exit → AS → Prop) : Prop := ∀ g im a w, Sim E g im s a w → wpList E.P l.toArray (Lift E Q) rest a w

/-- What an effect does to the ground: F says which old blocks may have been written. -/
structure Chg (g g' : Ga) (im im' : Im) (w w' : World) (nx : Nat) (F : Nat → Prop) : Prop where
  gx : ∀ i, i < nx → g' i = g i
  gn : ∀ i bi b, nx ≤ i → g' i = some bi → bi.a = some b → w.heap.size ≤ b ∨ F b
  imm : ∀ t b, im t b → im' t b
  imn : ∀ t b, im' t b → im t b ∨ (t = 0 ∧ w.heap.size ≤ b)
  sz : w.heap.size ≤ w'.heap.size
  fi : ∀ b, F b → ∀ t, ¬ im t b
  ch : ∀ b, b < w.heap.size → F b ∨ w'.heap[b]? = w.heap[b]?
theorem Chg.refl (g : Ga) (im : Im) (w : World) {nx : Nat} (h : ∀ i, nx ≤ i → g i = none) : Chg g g im im w w nx (fun _ => False) :=
  ⟨fun _ _ => rfl, fun i bi b hi hg => (by rw [h i hi] at hg; cases hg), fun _ _ h => h, fun _ _ h => .inl h, Nat.le_refl _, fun _ h => h.elim, fun _ _ => .inr rfl⟩
/-- F is made of the blocks of these objects. -/
def Of (g : Ga) (md : List Nat) (F : Nat → Prop) : Prop := ∀ b, F b → ∃ id ∈ md, ∃ bi, g id = some bi ∧ bi.a = some b
/-- An operation's effect: whatever it comes to is described, and meets Q; it may have written the objects md (some: these alone). -/
def ES (E : Env) (s : AS) (o : Oper) (md : Option (List Nat)) (Q : AS → Prop) : Prop :=
  ∀ g im a w (K : Act → World → Prop) (QQ : Exit → Act → World → Prop), Sim E g im s a w →
    (∀ g' im' s' a' w' F, Sim E g' im' s' a' w' → Q s' → Chg g g' im im' w w' s.nx F → (∀ m, md = some m → Of g m F) → K a' w') → o.wp E.P a w K QQ

/-- The slot is one of the frame. -/
def dok (nt : Nat) : Option Nat → Bool
  | none => true
  | some d => Nat.blt d nt
theorem dok_lt {nt : Nat} {d : Option Nat} (h : dok nt d = true) : ∀ k, d = some k → k < nt := by
  rintro k rfl
  exact Nat.lt_of_succ_le (Nat.le_of_ble_eq_true h)
theorem AI_none {E : Env} {g : Ga} {im : Im} {fps : List Nat} {s : AS} {a : Act} {w : World} (h : SimF E g im fps s a w) (os : Option (List Nat)) : AI g im (fun _ => False) w.heap.size os true :=
  ⟨fun _ _ _ h => h, fun t b _ => h.il t b, fun id _ bi b h1 h2 => ⟨h.gl id bi b h1 h2, fun h => h⟩⟩
theorem es_of_ps {E : Env} {s : AS} {o : Oper} {x : AV} {os : Option (List Nat)} {Q : AS → Prop} (h : PS E os true s o.op x) (hd : dok E.nt o.dst = true) (hQ : Q (s.putd o.dst x)) : ES E s o (some []) Q := by
  intro g im a w K QQ hs hK
  obtain ⟨fps, hs'⟩ := hs
  obtain ⟨v, hv, hrun⟩ := h g im a w (fun _ => False) w.heap.size ⟨fps, hs'⟩ (AI_none hs' os)
  have := hrun w (fun _ _ _ => rfl) o rfl
  unfold Oper.wp
  rw [this]
  exact hK g im _ _ w _ ⟨fps, hs'.putd (dok_lt hd) hv⟩ hQ (Chg.refl g im w hs'.gn) fun _ _ _ h => h.elim

/-! ### lists of operations that are carried out in the order of the text -/
def nth {α : Type} : List α → Nat → Option α
  | [], _ => none
  | x :: _, 0 => some x
  | _ :: xs, k + 1 => nth xs k
theorem nth_eq {α : Type} : ∀ (l : List α) (k : Nat), nth l k = l[k]?
  | [], k => by simp [nth]
  | x :: xs, 0 => by simp [nth]
  | x :: xs, k + 1 => by simp [nth, nth_eq xs k]
/-- Whose slot the operation's guard asks, and what it wants. -/
def gslot (l : List Oper) (o : Oper) : Option (Option Nat × Bool) := match o.guard with
  | none => none
  | some (j, want) => some ((nth l j).bind (·.dst), want)
/-- Is the operation carried out? (none: not known) -/
def gdv (l : List Oper) (s : AS) (o : Oper) : Option Bool := match gslot l o with
  | none => some true
  | some (some d, want) => match look d s.fr with
    | some (.h (.c (.bool true))) => some want
    | some (.h (.c (.bool false))) => some (!want)
    | some (.tup []) => some false
    | _ => none
  | some (none, _) => none
theorem wanted_of {E : Env} {g : Ga} {im : Im} {fps : List Nat} {s : AS} {a : Act} {w : World} (h : SimF E g im fps s a w) {l : List Oper} {o : Oper} {r : Bool} (hg : gdv l s o = some r) : Region.wanted o (yielded l.toArray a.tmps) = r := by
  unfold gdv gslot at hg
  unfold Region.wanted
  cases ho : o.guard with
  | none => rw [ho] at hg; simpa using hg
  | some p =>
    obtain ⟨j, want⟩ := p
    rw [ho] at hg
    simp only at hg ⊢
    have key : ∀ d b, (nth l j).bind (·.dst) = some d → look d s.fr = some (.h (.c (.bool b))) → yielded l.toArray a.tmps j = some b := by
      intro d b hd hb
      have e := RA_bool (h.fr _ _ hb)
      unfold yielded
      have : (l.toArray[j]?).bind (·.dst) = some d := by rw [List.getElem?_toArray, ← nth_eq]; exact hd
      rw [this]
      have ht : a.tmps[d]? = some (.bool b) := by
        rw [Array.getD_eq_getD_getElem?] at e
        cases hh : a.tmps[d]? with
        | none => rw [hh] at e; simp [undef] at e
        | some v => rw [hh] at e; simp at e; rw [e]
      simp [ht]
    cases hd : (nth l j).bind (·.dst) with
    | none => rw [hd] at hg; simp at hg
    | some d =>
      rw [hd] at hg
      simp only at hg
      split at hg
      · rename_i hb
        rw [key d true hd hb]
        injection hg with hg; subst hg
        cases want <;> rfl
      · rename_i hb
        rw [key d false hd hb]
        injection hg with hg; subst hg
        cases want <;> rfl
      · rename_i hb
        have e := h.fr _ _ hb
        simp only [RA] at e
        obtain ⟨vs, e, e2⟩ := e
        simp only [RAs] at e2
        rw [e2.1] at e
        have hy : yielded l.toArray a.tmps j = none := by
          unfold yielded
          have : (l.toArray[j]?).bind (·.dst) = some d := by rw [List.getElem?_toArray, ← nth_eq]; exact hd
          rw [this]
          rw [Array.getD_eq_getD_getElem?] at e
          cases hh : a.tmps[d]? with
          | none => simp [hh]
          | some v => rw [hh] at e; simp at e; subst e; simp [hh]
        rw [hy]
        cases hg
        rfl
      · cases hg
theorem al_nil {E : Env} {l : List Oper} {s : AS} {Q : Exit → AS → Prop} (h : Q .normal s) : AL E l [] s Q := fun g im _ _ hs => ⟨g, im, s, hs, h⟩
theorem al_e {E : Env} {l rest : List Oper} {s : AS} {o : Oper} {md : Option (List Nat)} {Q : Exit → AS → Prop} {Q' : AS → Prop} (hg : gdv l s o = some true) (h : ES E s o md Q') (k : ∀ s', Q' s' → AL E l rest s' Q) : AL E l (o :: rest) s Q := by
  intro g im a w hs
  obtain ⟨fps, hs'⟩ := hs
  unfold wpList
  rw [if_pos (wanted_of hs' hg)]
  exact .inl (h g im a w _ _ ⟨fps, hs'⟩ fun g' im' s' a' w' _ h1 h2 _ _ => k s' h2 g' im' a' w' h1)
theorem al_p {E : Env} {te : TE} (hte : teOk E.P te = true) {l rest : List Oper} {s : AS} {o : Oper} {x : AV} {Q : Exit → AS → Prop} (h : aev te none true s o.op = some x) (hg : gdv l s o = some true) (hd : dok E.nt o.dst = true)
    (k : AL E l rest (s.putd o.dst x) Q) : AL E l (o :: rest) s Q :=
  al_e (Q' := fun s' => s' = s.putd o.dst x) hg (es_of_ps (ps_of_aev hte h) hd rfl) fun s' h => by rw [h]; exact k
theorem al_ps {E : Env} {l rest : List Oper} {s : AS} {o : Oper} {x : AV} {Q : Exit → AS → Prop} (h : PS E none true s o.op x) (hg : gdv l s o = some true) (hd : dok E.nt o.dst = true)
    (k : AL E l rest (s.putd o.dst x) Q) : AL E l (o :: rest) s Q :=
  al_e (Q' := fun s' => s' = s.putd o.dst x) hg (es_of_ps h hd rfl) fun s' h => by rw [h]; exact k
/-- .. an effect that comes to one state. -/
theorem al_es {E : Env} {l rest : List Oper} {s s' : AS} {o : Oper} {md : Option (List Nat)} {Q : Exit → AS → Prop} (h : ES E s o md (fun x => x = s')) (hg : gdv l s o = some true) (k : AL E l rest s' Q) : AL E l (o :: rest) s Q :=
  al_e hg h fun x h => by rw [h]; exact k
theorem al_skip {E : Env} {l rest : List Oper} {s : AS} {o : Oper} {Q : Exit → AS → Prop} (hg : gdv l s o = some false) (hd : dok E.nt o.dst = true) (k : AL E l rest (s.putd o.dst (.tup [])) Q) : AL E l (o :: rest) s Q := by
  intro g im a w hs
  obtain ⟨fps, hs'⟩ := hs
  unfold wpList
  rw [if_neg (by rw [wanted_of hs' hg]; simp)]
  exact k g im _ w ⟨fps, hs'.putd (dok_lt hd) (by simp only [RA]; exact ⟨[], rfl, by simp [RAs]⟩)⟩
theorem put_same {E : Env} {g : Ga} {im : Im} {fps : List Nat} {s : AS} {a : Act} {w : World} (h : SimF E g im fps s a w) {d : Nat} {b : Bool} (hb : look d s.fr = some (.h (.c (.bool b)))) : SimF E g im fps (s.put d (.h (.c (.bool b)))) a w := by
  refine ⟨h.dfr, h.sz, ?_, h.hp, h.nd, h.lt, h.ni, h.mine, h.gn, h.gl, h.il, h.kp, h.kn, h.g0, h.i0, h.i1⟩
  intro t y hy
  by_cases ht : t = d
  · subst ht
    simp only [AS.put, look_cons_eq, Option.some.injEq] at hy
    subst hy
    exact h.fr t _ hb
  · simp only [AS.put, look_cons_ne ht] at hy
    exact h.fr t y hy
/-- A guard that is not known: both cases. -/
theorem al_split {E : Env} {l rest : List Oper} {s : AS} {Q : Exit → AS → Prop} (d : Nat) {b : Bool} (hb : look d s.fr = some (.h (.c (.bool b))))
    (kt : b = true → AL E l rest (s.put d (.h (.c (.bool true)))) Q) (kf : b = false → AL E l rest (s.put d (.h (.c (.bool false)))) Q) : AL E l rest s Q := by
  intro g im a w ⟨fps, hs⟩
  have := put_same hs hb
  cases b with
  | true => exact kt rfl g im a w ⟨fps, this⟩
  | false => exact kf rfl g im a w ⟨fps, this⟩

/-! ### code -/
def Sq (k : AS → Prop) (Q : Exit → AS → Prop) : Exit → AS → Prop
  | .normal, s => k s
  | e, s => Q e s
def Bk (id : Nat) (Q : Exit → AS → Prop) : Exit → AS → Prop
  | .exit id', s => bif Nat.beq id' id then Q .normal s else Q (.exit id') s
  | e, s => Q e s
section
variable {E : Env} {s : AS} {Q : Exit → AS → Prop}
theorem awp_region {id : Nat} {l : List Oper} (h : AL E l l s Q) : AWP E (.region id l.toArray false) s Q := fun g im a w hs => wp_region_lit (h g im a w hs)
theorem awp_seq {x y : Code} (h : AWP E x s (Sq (fun s' => AWP E y s' Q) Q)) : AWP E (.seq x y) s Q := fun g im a w hs =>
  wp_seq (wp_mono (h g im a w hs) fun e a' w' ⟨g', im', s', h1, h2⟩ => by
    cases e with
    | normal => exact h2 g' im' a' w' h1
    | _ => exact ⟨g', im', s', h1, h2⟩)
theorem awp_block {id : Nat} {c : Code} (h : AWP E c s (Bk id Q)) : AWP E (.block id c) s Q := fun g im a w hs =>
  wp_block (wp_mono (h g im a w hs) fun e a' w' ⟨g', im', s', h1, h2⟩ => by
    cases e with
    | exit id' =>
      simp only [Exit.inBlock, Bk] at h2 ⊢
      cases he : Nat.beq id' id with
      | true =>
        rw [if_pos (Nat.eq_of_beq_eq_true he)]
        rw [he] at h2
        exact ⟨g', im', s', h1, h2⟩
      | false =>
        rw [if_neg (fun e => by rw [e, Nat.beq_refl] at he; cases he)]
        rw [he] at h2
        exact ⟨g', im', s', h1, h2⟩
    | _ => exact ⟨g', im', s', h1, h2⟩)
theorem awp_cond {c : Operand} {x y : Code} {b : Bool} (hc : s.eval c = some (.h (.c (.bool b)))) (ht : b = true → AWP E x s Q) (hf : b = false → AWP E y s Q) : AWP E (.cond c x y) s Q := fun g im a w hs => by
  obtain ⟨fps, hs'⟩ := hs
  have e := RA_bool (hs'.eval hc)
  cases b with
  | true => exact wp_cond_true e (ht rfl g im a w ⟨fps, hs'⟩)
  | false => exact wp_cond_false e (hf rfl g im a w ⟨fps, hs'⟩)
theorem awp_ret (h : Q .ret s) : AWP E .ret s Q := fun g im _ _ hs => wp_ret ⟨g, im, s, hs, h⟩
theorem awp_skip (h : Q .normal s) : AWP E .skip s Q := fun g im _ _ hs => wp_skip ⟨g, im, s, hs, h⟩
theorem awp_exit {id : Nat} (h : Q (.exit id) s) : AWP E (.exit id) s Q := fun g im _ _ hs => wp_exit ⟨g, im, s, hs, h⟩
theorem awp_mono {c : Code} {Q' : Exit → AS → Prop} (h : AWP E c s Q') (hq : ∀ e s, Q' e s → Q e s) : AWP E c s Q := fun g im a w hs =>
  wp_mono (h g im a w hs) fun e _ _ ⟨g', im', s', h1, h2⟩ => ⟨g', im', s', h1, hq e s' h2⟩
/-- Leaving the code by an end, from a state: what must hold. -/
def XT (e : Exit) (s : AS) (Q : Exit → AS → Prop) : Prop := Q e s
theorem xt_sq_n {k : AS → Prop} (h : k s) : XT .normal s (Sq k Q) := h
theorem xt_bk_n {id : Nat} (h : XT .normal s Q) : XT .normal s (Bk id Q) := h
theorem xt_sq_r {k : AS → Prop} (h : XT .ret s Q) : XT .ret s (Sq k Q) := h
theorem xt_bk_r {id : Nat} (h : XT .ret s Q) : XT .ret s (Bk id Q) := h
theorem xt_sq_x {id : Nat} {k : AS → Prop} (h : XT (.exit id) s Q) : XT (.exit id) s (Sq k Q) := h
theorem xt_bk_eq {id : Nat} (h : XT .normal s Q) : XT (.exit id) s (Bk id Q) := by
  show (bif Nat.beq id id then Q .normal s else Q (.exit id) s)
  rw [Nat.beq_refl]
  exact h
theorem xt_bk_ne {id id' : Nat} (hne : Nat.beq id id' = false) (h : XT (.exit id) s Q) : XT (.exit id) s (Bk id' Q) := by
  show (bif Nat.beq id id' then Q .normal s else Q (.exit id) s)
  rw [hne]
  exact h
theorem xt_end {e : Exit} {P' : Exit → AS → Prop} (h : P' e s) : XT e s P' := h
theorem al_end {l : List Oper} (h : XT .normal s Q) : AL E l [] s Q := al_nil h
theorem awp_skip' (h : XT .normal s Q) : AWP E .skip s Q := awp_skip h
theorem awp_ret' (h : XT .ret s Q) : AWP E .ret s Q := awp_ret h
theorem awp_exit' {id : Nat} (h : XT (.exit id) s Q) : AWP E (.exit id) s Q := awp_exit h
/-- Forget and rename ahead of code. -/
theorem awp_le {c : Code} {s' : AS} (r : List (Nat × Nat)) (h : Le E.k r s s') (k : AWP E c s' Q) : AWP E c s Q := fun _ im a w hs => k _ im a w (h.sim hs)
/-- A loop: J says of what number a state at the loop's head is good. -/
theorem awp_loop {c : Code} (J : Nat → AS → Prop) (n : Nat) (h0 : J n s)
    (hr : ∀ n s, J n s → AWP E c s (Sq (fun s' => ∃ n' r s'', n' < n ∧ Le E.k r s' s'' ∧ J n' s'') Q)) : AWP E (.loop c) s Q := by
  intro g im a w hs b k cs
  have key : ∀ n a w g im s, J n s → Sim E g im s a w → ∃ e a' w', Lift E Q e a' w' ∧ Arrives E.P (lone (b.at a (.code c :: .inLoop c :: k)) cs w) b k cs e a' w' := by
    intro n
    induction n using Nat.strongRecOn with
    | _ n ih =>
      intro a w g im s hJ hs
      obtain ⟨e, a₁, w₁, hq, harr⟩ := hr n s hJ g im a w hs b (.inLoop c :: k) cs
      cases e with
      | normal =>
        obtain ⟨g', im', s', h1, n', r, s'', hlt, hle, hJ'⟩ := hq
        obtain ⟨e₂, a₂, w₂, hq₂, harr₂⟩ := ih n' hlt a₁ w₁ _ _ _ hJ' (hle.sim h1)
        exact ⟨e₂, a₂, w₂, hq₂, .of_steps (Steps.trans harr (.one step_inLoop)) harr₂⟩
      | exit id => exact ⟨_, a₁, w₁, hq, .pass (x := .inLoop c) rfl (fun _ _ => .inl (by simp)) harr⟩
      | goto l => exact ⟨_, a₁, w₁, hq, .pass (x := .inLoop c) rfl (fun _ _ => .inl (by simp)) harr⟩
      | ret => exact ⟨_, a₁, w₁, hq, .pass (x := .inLoop c) rfl (fun _ _ => .inl (by simp)) harr⟩
      | panic ch => exact ⟨_, a₁, w₁, hq, .pass (x := .inLoop c) rfl (fun _ _ => .inl (by simp)) harr⟩
      | outgrown => exact ⟨_, a₁, w₁, hq, .pass (x := .inLoop c) rfl (fun _ _ => .inl (by simp)) harr⟩
  obtain ⟨e, a', w', hq, harr⟩ := key n a w g im s h0 hs
  exact ⟨e, a', w', hq, .of_steps (.one step_loop) harr⟩
end
end Go.Proofs.Ytjijkdhjfanpaaa
