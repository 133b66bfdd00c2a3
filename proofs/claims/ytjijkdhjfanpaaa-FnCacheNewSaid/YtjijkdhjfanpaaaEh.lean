/- The engine, part h: new variables, stores. -/
import Derived.Test.YtjijkdhjfanpaaaEg
namespace Go.Proofs.Ytjijkdhjfanpaaa
open Go.RowKit

def gup (g : Ga) (i : Nat) (bi : BI) : Ga := fun j => if j = i then some bi else g j
theorem gup_old {g : Ga} {nx : Nat} {bi : BI} (h : ∀ i, nx ≤ i → g i = none) : ∀ i b, g i = some b → gup g nx bi i = some b := by
  intro i b hi
  unfold gup
  rw [if_neg (fun e => by rw [e, h nx (Nat.le_refl _)] at hi; cases hi)]
  exact hi
/-- A new block becomes a new object; some objects may go into it. -/
theorem SimF.new {E : Env} {g : Ga} {im : Im} {fps : List Nat} {s : AS} {a : Act} {w w' : World} (hs : SimF E g im fps s a w) {hp0 : List (Nat × Ob)} {fx f0 : List Nat} (h0 : HR g im w hp0 f0) (hn : (fx ++ f0).Nodup) (hsub : ∀ b ∈ fx ++ f0, b ∈ fps)
    (bi : BI) (o : Ob) (hk : ∀ b, b < w.heap.size → w'.heap[b]? = w.heap[b]?) (hsz : w'.heap.size = w.heap.size + 1) (hos : w'.os = w.os) (htp : w'.tape = w.tape) (hou : w'.output = w.output)
    (hba : bi.a = some w.heap.size) (hro : RO (gup g s.nx bi) im w' bi o (w.heap.size :: fx)) :
    SimF E (gup g s.nx bi) im ((w.heap.size :: fx) ++ f0) { fr := s.fr, hp := (s.nx, o) :: hp0, nx := s.nx + 1 } a w' := by
  have hg := gup_old (bi := bi) hs.gn
  have hi : ∀ t b, im t b → im t b ∧ w'.heap[b]? = w.heap[b]? := fun t b hb => ⟨hb, hk b (hs.il t b hb)⟩
  have hlt : ∀ b ∈ fx ++ f0, b < w.heap.size := fun b hb => hs.lt b (hsub b hb)
  refine ⟨hs.dfr, hs.sz, ?_, ?_, ?_, ?_, ?_, ?_, ?_, ?_, ?_, ?_, ?_, ?_, hs.i0, hs.i1⟩
  · intro t x hx
    exact RA_mono hg hi x _ [] (fun _ h => by cases h) (hs.fr t x hx)
  · refine ⟨bi, w.heap.size :: fx, f0, by simp [gup], rfl, hro, ?_⟩
    exact HR_mono hg hi hp0 f0 (fun b hb => hk b (hlt b (List.mem_append_right _ hb))) h0
  · rw [List.cons_append, List.nodup_cons]
    exact ⟨fun h => by have := hlt _ h; omega, hn⟩
  · intro b hb
    rcases List.mem_cons.1 hb with rfl | hb
    · omega
    · have := hlt b hb; omega
  · intro b hb t h
    rcases List.mem_cons.1 hb with rfl | hb
    · have := hs.il t _ h; omega
    · exact hs.ni b (hsub b hb) t h
  · intro b hb
    rcases List.mem_cons.1 hb with rfl | hb
    · exact .inl hs.kp.size
    · exact hs.mine b (hsub b hb)
  · intro i hi'
    simp only [gup]
    rw [if_neg (by simp only at hi'; omega)]
    exact hs.gn i (by simp only at hi'; omega)
  · intro i bi' b h1 h2
    simp only [gup] at h1
    split at h1
    · injection h1 with h1
      subst h1
      rw [hba] at h2
      injection h2 with h2
      omega
    · have := hs.gl i bi' b h1 h2; omega
  · intro t b h
    have := hs.il t b h; omega
  · exact hs.kp.trans_same hos htp hou (by omega) fun b hb => .inr (hk b hb)
  · have := hs.kn
    simp only
    omega
  · intro i hi'
    have := hs.kn
    simp only [gup]
    rw [if_neg (by omega)]
    exact hs.g0 i hi'
theorem Chg.new {g : Ga} {im : Im} {w w' : World} {nx : Nat} {bi : BI} (h : ∀ i, nx ≤ i → g i = none) (hba : bi.a = some w.heap.size) (hk : ∀ b, b < w.heap.size → w'.heap[b]? = w.heap[b]?) (hsz : w'.heap.size = w.heap.size + 1) :
    Chg g (gup g nx bi) im im w w' nx (fun _ => False) := by
  refine ⟨?_, ?_, fun _ _ h => h, fun _ _ h => .inl h, by omega, fun _ h => h.elim, fun b hb => .inr (hk b hb)⟩
  · intro i hi
    simp only [gup]
    rw [if_neg (by omega)]
  · intro i bi' b hi h1 h2
    simp only [gup] at h1
    split at h1
    · injection h1 with h1
      subst h1
      rw [hba] at h2
      injection h2 with h2
      left; omega
    · rw [h i hi] at h1; cases h1

theorem areV_RHs {g : Ga} {im : Im} {w : World} : ∀ (zs : List CV) (vs : List Value), CV.areV zs vs = true → RHs g im w (zs.map HV.c) vs []
  | [], [], _ => ⟨rfl, rfl⟩
  | x :: xs, v :: vs, h => by
    simp only [CV.areV, Bool.and_eq_true] at h
    exact ⟨v, vs, [], [], rfl, rfl, isV_R h.1, areV_RHs xs vs h.2⟩
  | [], _ :: _, h => by simp [CV.areV] at h
  | _ :: _, [], h => by simp [CV.areV] at h
theorem areV_length : ∀ (zs : List CV) (vs : List Value), CV.areV zs vs = true → zs.length = vs.length
  | [], [], _ => rfl
  | x :: xs, v :: vs, h => by
    simp only [CV.areV, Bool.and_eq_true] at h
    simp [areV_length xs vs h.2]
  | [], _ :: _, h => by simp [CV.areV] at h
  | _ :: _, [], h => by simp [CV.areV] at h
def cellsA : AV → Option (List HV)
  | .h x => some [x]
  | .agg xs => some xs
  | _ => none
theorem RH_cells {g : Ga} {im : Im} {w : World} {x : HV} {v : Value} {f : List Nat} (h : RH g im w x v f) : v.cells = #[v] := by
  cases x with
  | c x =>
    simp only [RH] at h
    cases x <;> simp only [R] at h
    · rw [h.1]; rfl
    · rw [h.1]; rfl
    · rw [h.1]; rfl
    · obtain ⟨_, A, c, rfl, _⟩ := h; rfl
    · rcases h with ⟨rfl, _⟩ | ⟨b, c, cur, f, rfl, _⟩ <;> rfl
    · rw [h.1]; rfl
  | sl id i n => obtain ⟨_, bi, _, _, _, rfl⟩ := h; rfl
  | sw id i n => obtain ⟨_, bi, A, c, _, rfl, _⟩ := h; rfl
  | ptr id o => obtain ⟨_, bi, b, _, _, rfl⟩ := h; rfl
  | rp t xs => obtain ⟨_, b, o, rfl, _⟩ := h; rfl
theorem RH_one {g : Ga} {im : Im} {w : World} {x : HV} {v : Value} {f : List Nat} (h : RH g im w x v f) : v.oneCell' = true := by
  cases x with
  | c x => exact R_one h
  | sl id i n => obtain ⟨_, bi, _, _, _, rfl⟩ := h; rfl
  | sw id i n => obtain ⟨_, bi, A, c, _, rfl, _⟩ := h; rfl
  | ptr id o => obtain ⟨_, bi, b, _, _, rfl⟩ := h; rfl
  | rp t xs => obtain ⟨_, b, o, rfl, _⟩ := h; rfl
theorem RHs_one {g : Ga} {im : Im} {w : World} : ∀ (xs : List HV) (vs : List Value) (f : List Nat), RHs g im w xs vs f → ∀ v ∈ vs, v.oneCell' = true
  | [], vs, f, h => by rw [h.1]; simp
  | x :: xs, vs, f, h => by
    obtain ⟨v, vs', f1, f2, rfl, rfl, h1, h2⟩ := h
    intro u hu
    rcases List.mem_cons.1 hu with rfl | hu
    · exact RH_one h1
    · exact RHs_one xs vs' f2 h2 u hu
theorem RA_cells {g : Ga} {im : Im} {w : World} {x : AV} {v : Value} {xs : List HV} (h : RA g im w x v []) (hx : cellsA x = some xs) : RHs g im w xs v.cells.toList [] := by
  cases x <;> simp only [cellsA, Option.some.injEq, reduceCtorEq] at hx
  · subst hx
    simp only [RA] at h
    rw [RH_cells h]
    exact ⟨v, [], [], [], rfl, rfl, h, rfl, rfl⟩
  · subst hx
    simp only [RA] at h
    obtain ⟨cs, rfl, h⟩ := h
    simpa [Value.cells] using h
section
variable {E : Env} {te : TE} {s : AS} {o : Oper} {Q : AS → Prop}
/-- A new variable with these cells. -/
theorem new_box {g : Ga} {im : Im} {fps : List Nat} {a : Act} {w : World} (hs : SimF E g im fps s a w) (ty : TypeId) {xs : List HV} {cs : List Value} (hr : RHs g im w xs cs []) :
    SimF E (gup g s.nx ⟨some w.heap.size, 0, ty, 0⟩) im (w.heap.size :: fps) { fr := s.fr, hp := (s.nx, .box ty xs) :: s.hp, nx := s.nx + 1 } a (w.alloc (.cells cs.toArray ty)) := by
  have hk : ∀ b, b < w.heap.size → (w.alloc (.cells cs.toArray ty)).heap[b]? = w.heap[b]? := fun b hb => Below.heap_alloc w _ b hb
  have := hs.new (fx := []) (w' := w.alloc (.cells cs.toArray ty)) hs.hp (by simpa using hs.nd) (by simp) ⟨some w.heap.size, 0, ty, 0⟩ (.box ty xs) hk (by simp) rfl rfl rfl rfl
    ⟨w.heap.size, cs, [], rfl, rfl, heap_alloc_new w _, RHs_mono (gup_old hs.gn) (fun t b hb => ⟨hb, hk b (hs.il t b hb)⟩) xs cs [] (fun _ h => by cases h) hr⟩
  simpa using this
theorem es_alloc {ty : TypeId} {inf : TInf} (hte : teOk E.P te = true) (hop : o.op = .alloc ty) (ht : look ty te = some inf) (hd : dok E.nt o.dst = true)
    (hQ : Q (({ fr := s.fr, hp := (s.nx, .box ty (inf.zs.map HV.c)) :: s.hp, nx := s.nx + 1 } : AS).putd o.dst (.h (.ptr s.nx 0)))) : ES E s o (some []) Q := by
  intro g im a w K QQ ⟨fps, hs⟩ hK
  obtain ⟨⟨i, z, h1, h2, h3, h4, h5, h6⟩, h7⟩ := teOk_look hte ht
  have hr : RHs g im w (inf.zs.map HV.c) z.cells.toList [] := areV_RHs _ _ h5
  have hn := new_box hs ty hr
  simp only [Array.toArray_toList] at hn
  have hrun : (execOp a.eval o).run E.P w = .ok (.value (.pointer (some ⟨w.heap.size, 0, none⟩))) (w.alloc (.cells z.cells ty)) := by
    simp [execOp, hop, Instr.alloc, zeroValue, typeInfo, h1, h4, newVar, newRow]
  unfold Oper.wp
  rw [hrun]
  refine hK _ im _ _ _ _ ⟨_, hn.putd (dok_lt hd) (v := .pointer (some ⟨w.heap.size, 0, none⟩)) ?_⟩ hQ (Chg.new hs.gn rfl (fun b hb => Below.heap_alloc w _ b hb) (by simp)) fun _ _ _ h => h.elim
  simp only [RA, RH]
  exact ⟨trivial, ⟨some w.heap.size, 0, ty, 0⟩, w.heap.size, by simp [gup], rfl, rfl⟩
theorem es_box {ty : TypeId} {x : Operand} {y : AV} {xs : List HV} (hop : o.op = .box ty x) (hx : s.eval x = some y) (hc : cellsA y = some xs) (hd : dok E.nt o.dst = true)
    (hQ : Q (({ fr := s.fr, hp := (s.nx, .box ty xs) :: s.hp, nx := s.nx + 1 } : AS).putd o.dst (.h (.ptr s.nx 0)))) : ES E s o (some []) Q := by
  intro g im a w K QQ ⟨fps, hs⟩ hK
  have hr := RA_cells (hs.eval hx) hc
  have hn := new_box hs ty hr
  simp only [Array.toArray_toList] at hn
  have hrun : (execOp a.eval o).run E.P w = .ok (.value (.pointer (some ⟨w.heap.size, 0, none⟩))) (w.alloc (.cells (a.eval x).cells ty)) := by
    simp [execOp, hop, Instr.box, newVar, newRow]
  unfold Oper.wp
  rw [hrun]
  refine hK _ im _ _ _ _ ⟨_, hn.putd (dok_lt hd) (v := .pointer (some ⟨w.heap.size, 0, none⟩)) ?_⟩ hQ (Chg.new hs.gn rfl (fun b hb => Below.heap_alloc w _ b hb) (by simp)) fun _ _ _ h => h.elim
  simp only [RA, RH]
  exact ⟨trivial, ⟨some w.heap.size, 0, ty, 0⟩, w.heap.size, by simp [gup], rfl, rfl⟩
end

/-! ### stores -/
def setL {α : Type} (xs : List α) (o : Nat) (ys : List α) : List α := xs.take o ++ (ys ++ xs.drop (o + ys.length))
theorem RHs_append {g : Ga} {im : Im} {w : World} : ∀ (xs : List HV) (vs : List Value) (f : List Nat) (ys : List HV) (us : List Value) (f' : List Nat), RHs g im w xs vs f → RHs g im w ys us f' → RHs g im w (xs ++ ys) (vs ++ us) (f ++ f')
  | [], vs, f, ys, us, f', h, h' => by obtain ⟨rfl, rfl⟩ := h; exact h'
  | x :: xs, vs, f, ys, us, f', h, h' => by
    obtain ⟨v, vs', f1, f2, rfl, rfl, h1, h2⟩ := h
    exact ⟨v, vs' ++ us, f1, f2 ++ f', rfl, by simp, h1, RHs_append xs vs' f2 ys us f' h2 h'⟩
theorem RHs_takes {g : Ga} {im : Im} {w : World} : ∀ (xs : List HV) (vs : List Value) (f : List Nat) (k : Nat), RHs g im w xs vs f → ∃ f1 f2, f = f1 ++ f2 ∧ RHs g im w (xs.take k) (vs.take k) f1 ∧ RHs g im w (xs.drop k) (vs.drop k) f2
  | xs, vs, f, 0, h => ⟨[], f, rfl, by simp [RHs], by simpa using h⟩
  | [], vs, f, k + 1, h => by obtain ⟨rfl, rfl⟩ := h; exact ⟨[], [], rfl, by simp [RHs], by simp [RHs]⟩
  | x :: xs, vs, f, k + 1, h => by
    obtain ⟨v, vs', f1, f2, rfl, rfl, h1, h2⟩ := h
    obtain ⟨fa, fb, rfl, h3, h4⟩ := RHs_takes xs vs' f2 k h2
    exact ⟨f1 ++ fa, fb, by simp, ⟨v, vs'.take k, f1, fa, by simp, rfl, h1, h3⟩, by simpa using h4⟩
theorem RHs_setL {g : Ga} {im : Im} {w : World} {xs ys : List HV} {vs us : List Value} {f : List Nat} {o : Nat} (h : RHs g im w xs vs f) (h' : RHs g im w ys us []) : ∃ f', f'.Sublist f ∧ RHs g im w (setL xs o ys) (vs.take o ++ us ++ vs.drop (o + us.length)) f' := by
  obtain ⟨f1, f2, rfl, h1, h2⟩ := RHs_takes xs vs f o h
  have hl := RHs_length _ _ _ h'
  obtain ⟨f3, f4, hf, h3, h4⟩ := RHs_takes xs vs (f1 ++ f2) (o + ys.length) h
  obtain ⟨f5, f6, rfl, h5, h6⟩ := RHs_takes (xs.drop o) (vs.drop o) f2 ys.length h2
  refine ⟨f1 ++ ([] ++ f6), ?_, ?_⟩
  · exact List.Sublist.append (List.Sublist.refl _) (by simp)
  · unfold setL
    rw [List.append_assoc]
    rw [List.drop_drop, List.drop_drop] at h6
    rw [hl]
    exact RHs_append _ _ _ _ _ _ h1 (RHs_append _ _ _ _ _ _ h' h6)
/-- An object has been written. -/
theorem SimF.upd {E : Env} {g : Ga} {im : Im} {fps : List Nat} {s : AS} {a : Act} {w w' : World} (hs : SimF E g im fps s a w) {id : Nat} {ob ob' : Ob} (hl : look id s.hp = some ob) {bi : BI} {b : Nat} (hg : g id = some bi) (hb : bi.a = some b)
    (hk : ∀ c, c ≠ b → w'.heap[c]? = w.heap[c]?) (hsz : w'.heap.size = w.heap.size) (hos : w'.os = w.os) (htp : w'.tape = w.tape) (hou : w'.output = w.output)
    (hro : ∀ f, RO g im w bi ob f → (∀ c ∈ f, c < w.heap.size ∧ ∀ t, ¬ im t c) → f.Nodup → ∃ f', f'.Sublist f ∧ RO g im w' bi ob' f') : ∃ fps', SimF E g im fps' { s with hp := upd id ob' s.hp } a w' := by
  obtain ⟨l1, l2, hhp, hu, _⟩ := look_split hl
  have hhr := hs.hp
  rw [hhp] at hhr
  obtain ⟨f1, f23, hf, ha, bi', f2, f3, hg', rfl, hro2, h3⟩ := (HR_append _ _ _).1 hhr
  obtain rfl : bi = bi' := by rw [hg] at hg'; exact Option.some.inj hg'
  have hbm : b ∈ f2 := RO_mem hro2 hb
  have hnd := hs.nd
  rw [hf] at hnd
  have hsub2 : ∀ c ∈ f2, c ∈ fps := fun c hc => by rw [hf]; exact List.mem_append_right _ (List.mem_append_left _ hc)
  have n23 := (List.nodup_append.1 hnd).2.1
  have n2 := (List.nodup_append.1 n23).1
  obtain ⟨f2', hsl, hro'⟩ := hro f2 hro2 (fun c hc => ⟨hs.lt c (hsub2 c hc), hs.ni c (hsub2 c hc)⟩) n2
  have hb1 : ∀ c ∈ f1, c ≠ b := fun c hc e => (List.nodup_append.1 hnd).2.2 c hc b (List.mem_append_left _ hbm) e
  have hb3 : ∀ c ∈ f3, c ≠ b := fun c hc e => (List.nodup_append.1 n23).2.2 b hbm c hc e.symm
  have him : ∀ t c, im t c → im t c ∧ w'.heap[c]? = w.heap[c]? := fun t c hc => ⟨hc, hk c fun e => by subst e; exact hs.ni c (hsub2 c hbm) t hc⟩
  have hsubl : (f1 ++ (f2' ++ f3)).Sublist fps := by rw [hf]; exact List.Sublist.append (List.Sublist.refl _) (List.Sublist.append hsl (List.Sublist.refl _))
  refine ⟨f1 ++ (f2' ++ f3), hs.dfr, hs.sz, ?_, ?_, hs.nd.sublist hsubl, ?_, fun c hc => hs.ni c (hsubl.subset hc), fun c hc => hs.mine c (hsubl.subset hc), hs.gn, ?_, ?_, ?_, hs.kn, hs.g0, hs.i0, hs.i1⟩
  · intro t x hx
    exact RA_mono (fun _ _ h => h) him x _ [] (fun _ h => by cases h) (hs.fr t x hx)
  · show HR g im w' (Go.Proofs.Ytjijkdhjfanpaaa.upd id ob' s.hp) _
    rw [hu]
    refine (HR_append _ _ _).2 ⟨f1, f2' ++ f3, rfl, HR_mono (fun _ _ h => h) him l1 f1 (fun c hc => hk c (hb1 c hc)) ha, bi, f2', f3, hg, rfl, hro', HR_mono (fun _ _ h => h) him l2 f3 (fun c hc => hk c (hb3 c hc)) h3⟩
  · intro c hc; rw [hsz]; exact hs.lt c (hsubl.subset hc)
  · intro i bi c h1 h2; rw [hsz]; exact hs.gl i bi c h1 h2
  · intro t c hc; rw [hsz]; exact hs.il t c hc
  · exact hs.kp.trans_same hos htp hou (by omega) fun c hc => by
      by_cases h : c = b
      · subst h; exact .inl (hs.mine c (hsub2 c hbm))
      · exact .inr (hk c h)
theorem Chg.upd {E : Env} {g : Ga} {im : Im} {fps : List Nat} {s : AS} {a : Act} {w w' : World} (hs : SimF E g im fps s a w) {b : Nat} (hni : ∀ t, ¬ im t b) (hk : ∀ c, c ≠ b → w'.heap[c]? = w.heap[c]?) (hsz : w'.heap.size = w.heap.size) : Chg g g im im w w' s.nx (· = b) :=
  ⟨fun _ _ => rfl, fun i bi c hi h1 _ => (by rw [hs.gn i hi] at h1; cases h1), fun _ _ h => h, fun _ _ h => .inl h, by omega, fun c hc t h => by subst hc; exact hni t h, fun c _ => by
    by_cases h : c = b
    · exact .inl h
    · exact .inr (hk c h)⟩
section
variable {E : Env} {te : TE} {s : AS} {o : Oper} {Q : AS → Prop}
theorem run_store_var {P : Program} (hte : teOk P te = true) {t : Nat} {inf : TInf} (ht : look t te = some inf) {w : World} {b off : Nat} {cur : Array Value} {ty : TypeId} (hb : w.heap[b]? = some (.cells cur ty (0, 0))) {v : Value} {us : List Value} (hv : v.cells.toList = us) (hl : us.length = inf.sz) (h1 : ∀ u ∈ us, u.oneCell' = true) (hle : off + us.length ≤ cur.size) :
    (Instr.storeAt t (.pointer (some ⟨b, off, none⟩)) v).run P w = .ok () (w.setRow b (cur.toList.take off ++ us ++ cur.toList.drop (off + us.length)).toArray) := by
  have hz := size_of hte ht w
  have hsz : v.cells.size = inf.sz := by rw [← hl, ← hv]; simp
  have := run_storeCells_at (P := P) b off ty us 0 cur w hb (by simpa using hle) h1
  simp only [Nat.add_zero] at this
  unfold Instr.storeAt storeVar
  simp only [Instr.sureAddr, Sem.run_bind, Sem.run_pure, Result.andThen_ok, hz]
  rw [if_neg (by rw [hsz]; simp), hv, this]
/-- A store into a variable. -/
theorem es_store {t : TypeId} {x y : Operand} {id off : Nat} {v : AV} {ty : Nat} {cs ys : List HV} {inf : TInf} (hte : teOk E.P te = true) (hop : o.op = .store t x y) (hx : s.eval x = some (.h (.ptr id off))) (hy : s.eval y = some v) (hv : cellsA v = some ys) (hl : look id s.hp = some (.box ty cs))
    (ht : look t te = some inf) (hsz : Nat.beq ys.length inf.sz = true) (hle : Nat.ble (off + ys.length) cs.length = true) (hd : dok E.nt o.dst = true)
    (hQ : Q (({ s with hp := upd id (.box ty (setL cs off ys)) s.hp } : AS).putd o.dst .top)) : ES E s o (some [id]) Q := by
  intro g im a w K QQ ⟨fps, hs⟩ hK
  have hp := hs.eval hx
  simp only [RA, RH] at hp
  obtain ⟨_, bi, b, hg, hb, e⟩ := hp
  have hus := RA_cells (hs.eval hy) hv
  have hul := RHs_length _ _ _ hus
  obtain ⟨bi', f1, f2, f3, hg', hf, hro⟩ := look_HR hs.hp hl
  obtain rfl : bi = bi' := by rw [hg] at hg'; exact Option.some.inj hg'
  obtain ⟨b', vs, f, hb', rfl, hh, hr⟩ := hro
  obtain rfl : b = b' := by rw [hb] at hb'; exact Option.some.inj hb'
  have hvl := RHs_length _ _ _ hr
  have hle' := Nat.le_of_ble_eq_true hle
  have hsz' := Nat.eq_of_beq_eq_true hsz
  have hcs : (a.eval y).cells.size = ys.length := by simpa using hul
  have hrun := run_store_var (P := E.P) hte ht hh (v := a.eval y) rfl (by omega) (RHs_one _ _ _ hus) (off := off) (by simp; omega)
  have hbf : b ∈ fps := by rw [hf]; exact List.mem_append_right _ (List.mem_append_left _ List.mem_cons_self)
  have hblt := hs.lt b hbf
  have hk : ∀ c, c ≠ b → (w.setRow b (vs.toArray.toList.take off ++ (a.eval y).cells.toList ++ vs.toArray.toList.drop (off + (a.eval y).cells.toList.length)).toArray).heap[c]? = w.heap[c]? := fun c hc => setRow_other w b c _ hc
  obtain ⟨fps', hsim⟩ := hs.upd (ob' := .box ty (setL cs off ys)) hl hg hb hk (by simp) rfl rfl rfl (fun f0 hro0 hf0 hnd0 => by
    obtain ⟨b0, vs0, f4, hb0, rfl, hh0, hr0⟩ := hro0
    obtain rfl : b = b0 := by rw [hb] at hb0; exact Option.some.inj hb0
    rw [hh] at hh0
    injection hh0 with hh0
    injection hh0 with hh0
    have hvv : vs = vs0 := by simpa using hh0
    subst hvv
    obtain ⟨f', hsl, hr'⟩ := RHs_setL (o := off) hr0 hus
    refine ⟨b :: f', List.Sublist.cons_cons _ hsl, b, _, f', hb, rfl, setRow_heap w b _ _ ty (0, 0) hh, ?_⟩
    refine RHs_mono (fun _ _ h => h) (fun t c hc => ⟨hc, hk c fun e => ?_⟩) _ _ _ (fun c hc => hk c fun e => ?_) ?_
    · subst e; exact (hf0 c List.mem_cons_self).2 t hc
    · subst e
      exact (List.nodup_cons.1 hnd0).1 (hsl.subset hc)
    · simpa using hr')
  unfold Oper.wp
  have : (execOp a.eval o).run E.P w = .ok .skip (w.setRow b (vs.toArray.toList.take off ++ (a.eval y).cells.toList ++ vs.toArray.toList.drop (off + (a.eval y).cells.toList.length)).toArray) := by
    simp only [execOp, hop, e, Sem.run_bind, hrun, Result.andThen_ok, Sem.run_pure]
  rw [this]
  refine hK g im _ _ _ (· = b) ⟨fps', hsim.putd (dok_lt hd) (by simp only [RA])⟩ hQ (Chg.upd hs (fun t => hs.ni b hbf t) hk (by simp)) ?_
  rintro m hm c rfl
  injection hm with hm
  subst hm
  exact ⟨id, List.mem_cons_self, bi, hg, hb⟩
end
end Go.Proofs.Ytjijkdhjfanpaaa
