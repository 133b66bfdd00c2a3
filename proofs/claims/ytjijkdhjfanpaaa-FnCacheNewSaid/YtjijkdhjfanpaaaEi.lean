/- The engine, part i: rows: written out, made, appended to, stored into. -/
import Derived.Test.YtjijkdhjfanpaaaEh
import Derived.Maps.AppendAt
namespace Go.Proofs.Ytjijkdhjfanpaaa
open Go.RowKit

/-- Some objects go, one comes; only blocks of those that go may have been written. -/
theorem SimF.swap {E : Env} {g : Ga} {im : Im} {fps : List Nat} {s : AS} {a : Act} {w w' : World} (hs : SimF E g im fps s a w) {hp0 : List (Nat × Ob)} {fr f0 f' : List Nat} (h0 : HR g im w hp0 f0) (hn : (fr ++ f0).Nodup) (hsub : ∀ b ∈ fr ++ f0, b ∈ fps)
    (bi : BI) (o : Ob) (hk : ∀ b, b < w.heap.size → b ∉ fr → w'.heap[b]? = w.heap[b]?) (hsz : w.heap.size ≤ w'.heap.size) (hos : w'.os = w.os) (htp : w'.tape = w.tape) (hou : w'.output = w.output)
    (hn' : f'.Nodup) (hf' : ∀ b ∈ f', b ∈ fr ∨ w.heap.size ≤ b) (hl' : ∀ b ∈ f', b < w'.heap.size) (hba : ∀ b, bi.a = some b → b < w'.heap.size) (hro : RO (gup g s.nx bi) im w' bi o f') :
    SimF E (gup g s.nx bi) im (f' ++ f0) { fr := s.fr, hp := (s.nx, o) :: hp0, nx := s.nx + 1 } a w' := by
  have hg := gup_old (bi := bi) hs.gn
  have hfr : ∀ b ∈ fr, b ∈ fps := fun b hb => hsub b (List.mem_append_left _ hb)
  have hf0 : ∀ b ∈ f0, b ∈ fps := fun b hb => hsub b (List.mem_append_right _ hb)
  have hi : ∀ t b, im t b → im t b ∧ w'.heap[b]? = w.heap[b]? := fun t b hb => ⟨hb, hk b (hs.il t b hb) fun h => hs.ni b (hfr b h) t hb⟩
  have hdis := (List.nodup_append.1 hn).2.2
  refine ⟨hs.dfr, hs.sz, ?_, ?_, ?_, ?_, ?_, ?_, ?_, ?_, ?_, ?_, ?_, ?_, hs.i0, hs.i1⟩
  · intro t x hx
    exact RA_mono hg hi x _ [] (fun _ h => by cases h) (hs.fr t x hx)
  · refine ⟨bi, f', f0, by simp [gup], rfl, hro, ?_⟩
    exact HR_mono hg hi hp0 f0 (fun b hb => hk b (hs.lt b (hf0 b hb)) fun h => hdis b h b hb rfl) h0
  · rw [List.nodup_append]
    refine ⟨hn', (List.nodup_append.1 hn).2.1, fun x hx y hy e => ?_⟩
    subst e
    rcases hf' x hx with h | h
    · exact hdis x h x hy rfl
    · have := hs.lt x (hf0 x hy); omega
  · intro b hb
    rcases List.mem_append.1 hb with hb | hb
    · exact hl' b hb
    · have := hs.lt b (hf0 b hb); omega
  · intro b hb t h
    rcases List.mem_append.1 hb with hb | hb
    · rcases hf' b hb with h' | h'
      · exact hs.ni b (hfr b h') t h
      · have := hs.il t _ h; omega
    · exact hs.ni b (hf0 b hb) t h
  · intro b hb
    rcases List.mem_append.1 hb with hb | hb
    · rcases hf' b hb with h' | h'
      · exact hs.mine b (hfr b h')
      · exact .inl (Nat.le_trans hs.kp.size h')
    · exact hs.mine b (hf0 b hb)
  · intro i hi'
    simp only [gup]
    rw [if_neg (by simp only at hi'; omega)]
    exact hs.gn i (by simp only at hi'; omega)
  · intro i bi' b h1 h2
    simp only [gup] at h1
    split at h1
    · injection h1 with h1
      subst h1
      exact hba b h2
    · have := hs.gl i bi' b h1 h2; omega
  · intro t b h
    have := hs.il t b h; omega
  · exact hs.kp.trans_same hos htp hou (by omega) fun b hb => by
      by_cases h : b ∈ fr
      · exact .inl (hs.mine b (hfr b h))
      · exact .inr (hk b hb h)
  · have := hs.kn
    simp only
    omega
  · intro i hi'
    have := hs.kn
    simp only [gup]
    rw [if_neg (by omega)]
    exact hs.g0 i hi'
theorem Chg.swap {g : Ga} {im : Im} {w w' : World} {nx : Nat} {bi : BI} {F : Nat → Prop} (h : ∀ i, nx ≤ i → g i = none) (hba : ∀ b, bi.a = some b → w.heap.size ≤ b ∨ F b) (hF : ∀ b, F b → ∀ t, ¬ im t b) (hk : ∀ b, b < w.heap.size → F b ∨ w'.heap[b]? = w.heap[b]?) (hsz : w.heap.size ≤ w'.heap.size) :
    Chg g (gup g nx bi) im im w w' nx F := by
  refine ⟨?_, ?_, fun _ _ h => h, fun _ _ h => .inl h, hsz, hF, hk⟩
  · intro i hi
    simp only [gup]
    rw [if_neg (by omega)]
  · intro i bi' b hi h1 h2
    simp only [gup] at h1
    split at h1
    · injection h1 with h1
      subst h1
      exact hba b h2
    · rw [h i hi] at h1; cases h1

/-! ### cells, value by value -/
theorem RHs_RL {g : Ga} {im : Im} {w : World} {b : Nat} : ∀ (xs : List CV) (us : List Value) (o : Nat) (f : List Nat), RHs g im w (xs.map HV.c) us f → (∀ j u, us[j]? = some u → w.cell? ⟨b, o + j, none⟩ = some u) → RL im w b xs o f
  | [], us, o, f, h, _ => by simp only [RL]; exact h.2
  | x :: xs, us, o, f, h, hc => by
    obtain ⟨v, vs', f1, f2, rfl, rfl, h1, h2⟩ := h
    simp only [RL]
    refine ⟨v, f1, f2, rfl, hc 0 v rfl, h1, RHs_RL xs vs' (o + 1) f2 h2 fun j u hj => ?_⟩
    have := hc (j + 1) u (by simpa using hj)
    simpa [Nat.add_assoc, Nat.add_comm 1] using this
theorem RHs_nogh {g g' : Ga} {im : Im} {w : World} : ∀ (xs : List CV) (us : List Value) (f : List Nat), RHs g im w (xs.map HV.c) us f → RHs g' im w (xs.map HV.c) us f
  | [], us, f, h => h
  | x :: xs, us, f, h => by
    obtain ⟨v, vs', f1, f2, rfl, rfl, h1, h2⟩ := h
    exact ⟨v, vs', f1, f2, rfl, rfl, h1, RHs_nogh xs vs' f2 h2⟩
theorem setL_get {α : Type} (xs ys : List α) (o : Nat) (h : o + ys.length ≤ xs.length) (j : Nat) : (setL xs o ys)[j]? = if j < o then xs[j]? else if j < o + ys.length then ys[j - o]? else xs[j]? := by
  unfold setL
  have hl : (xs.take o).length = o := by simp; omega
  split
  · rw [List.getElem?_append_left (by omega), List.getElem?_take]
    rw [if_pos (by assumption)]
  · rw [List.getElem?_append_right (by omega), hl]
    split
    · rw [List.getElem?_append_left (by omega)]
    · rw [List.getElem?_append_right (by omega), List.getElem?_drop]
      congr 1
      omega
theorem setL_length {α : Type} (xs ys : List α) (o : Nat) (h : o + ys.length ≤ xs.length) : (setL xs o ys).length = xs.length := by
  unfold setL
  simp
  omega
theorem setL_map {α β : Type} (f : α → β) (xs ys : List α) (o : Nat) : (setL xs o ys).map f = setL (xs.map f) o (ys.map f) := by
  simp [setL, List.map_take, List.map_drop]
theorem setL_cons {α : Type} (xs : List α) (o : Nat) (c : α) (l : List α) (h : o + (l.length + 1) ≤ xs.length) : setL xs o (c :: l) = setL (xs.set o c) (o + 1) l := by
  apply List.ext_getElem?
  intro j
  rw [setL_get _ _ _ (by simpa using h), setL_get _ _ _ (by simp; omega)]
  by_cases h1 : j < o
  · rw [if_pos h1, if_pos (by omega), List.getElem?_set, if_neg (by omega)]
  · rw [if_neg h1]
    simp only [List.length_cons]
    by_cases h2 : j = o
    · subst h2
      rw [if_pos (by omega), if_pos (by omega), List.getElem?_set, if_pos rfl, if_pos (by omega)]
      simp
    · by_cases h3 : j < o + (l.length + 1)
      · rw [if_pos h3, if_neg (by omega), if_pos (by omega)]
        rw [show j - o = (j - (o + 1)) + 1 by omega]
        simp
      · rw [if_neg h3, if_neg (by omega), if_neg (by omega), List.getElem?_set, if_neg (by omega)]
theorem fill_list (off : Nat) : ∀ (l : List Value) (k : Nat) (cells : Array Value), off + k + l.length ≤ cells.size → (l.zipIdx k).foldl (fun cs (x : Value × Nat) => cs.setIfInBounds (off + x.2) x.1) cells = (setL cells.toList (off + k) l).toArray
  | [], k, cells, _ => by simp [setL]
  | c :: l, k, cells, h => by
    simp only [List.length_cons] at h
    rw [List.zipIdx_cons, List.foldl_cons, fill_list off l (k + 1) _ (by simp; omega), setL_cons _ _ _ _ (by simp; omega)]
    simp [Nat.add_assoc]
theorem fill_step (off : Nat) (v : Value) (cells : Array Value) (h : off + v.cells.size ≤ cells.size) : v.cells.zipIdx.foldl (fun cs (x : Value × Nat) => cs.setIfInBounds (off + x.2) x.1) cells = (setL cells.toList off v.cells.toList).toArray := by
  have := fill_list off v.cells.toList 0 cells (by simpa using h)
  rw [Nat.add_zero] at this
  rw [← this, ← Array.foldl_toList]
  simp
/-- The parts that are laid into the cells, by place and size. -/
def lay (place : Nat → Option (Nat × Nat)) (s : AS) : List HV → List (Nat × Operand) → Option (List HV)
  | cs, [] => some cs
  | cs, (i, x) :: r => match place i, s.eval x with
    | some (off, sz), some y => match cellsA y with
      | some ys => bif Nat.beq ys.length sz && Nat.ble (off + ys.length) cs.length then lay place s (setL cs off ys) r else none
      | none => none
    | _, _ => none
theorem lay_fill {E : Env} {g : Ga} {im : Im} {fps : List Nat} {s : AS} {a : Act} {w : World} (hs : SimF E g im fps s a w) {place : Nat → Option (Nat × Nat)} : ∀ (parts : List (Nat × Operand)) (cs : List HV) (us : Array Value) (cs' : List HV), lay place s cs parts = some cs' → RHs g im w cs us.toList [] →
    ∃ us', Instr.fill place us (parts.map fun (i, x) => (i, a.eval x)) = some us' ∧ RHs g im w cs' us'.toList []
  | [], cs, us, cs', h, hr => by
    simp only [lay, Option.some.injEq] at h
    subst h
    exact ⟨us, rfl, hr⟩
  | (i, x) :: r, cs, us, cs', h, hr => by
    simp only [lay] at h
    split at h
    · rename_i off sz y hp hy
      split at h
      · rename_i ys hys
        cases hb : (Nat.beq ys.length sz && Nat.ble (off + ys.length) cs.length) with
        | false => rw [hb] at h; simp at h
        | true =>
          rw [hb] at h
          simp only [cond_true] at h
          simp only [Bool.and_eq_true] at hb
          have h1 := Nat.eq_of_beq_eq_true hb.1
          have h2 := Nat.le_of_ble_eq_true hb.2
          have hv := RA_cells (hs.eval hy) hys
          have hvl := RHs_length _ _ _ hv
          have hul := RHs_length _ _ _ hr
          have hcs : (a.eval x).cells.size = ys.length := by simpa using hvl
          obtain ⟨f', hf', hr'⟩ := RHs_setL (o := off) hr hv
          have : f' = [] := List.eq_nil_of_sublist_nil hf'
          subst this
          have hlen : us.size = cs.length := by simpa using hul
          have hst := fill_step off (a.eval x) us (by omega)
          obtain ⟨us', h3, h4⟩ := lay_fill hs r _ (setL us.toList off (a.eval x).cells.toList).toArray cs' h (by simpa [setL] using hr')
          refine ⟨us', ?_, h4⟩
          simp only [List.map_cons, Instr.fill, hp]
          rw [if_neg (by simp; omega), hst]
          exact h3
      · cases h
    · cases h
/-- Slices that are owned go into cells. -/
def absL (hp : List (Nat × Ob)) : List HV → Option (List CV × List (Nat × Ob))
  | [] => some ([], hp)
  | .c x :: r => match absL hp r with
    | some (xs, hp') => some (x :: xs, hp')
    | none => none
  | .sl id 0 n :: r => match look id hp with
    | some (.arr ty e ys) => match absL (del id hp) r with
      | some (xs, hp') => some (.ow ty e n ys :: xs, hp')
      | none => none
    | _ => none
  | _ => none
theorem absL_sound {g : Ga} {im : Im} {w : World} : ∀ (hs : List HV) (hp : List (Nat × Ob)) (us : List Value) (fps : List Nat) (xs : List CV) (hp' : List (Nat × Ob)), absL hp hs = some (xs, hp') → RHs g im w hs us [] → HR g im w hp fps → fps.Nodup →
    ∃ fx f0, RHs g im w (xs.map HV.c) us fx ∧ HR g im w hp' f0 ∧ (fx ++ f0).Nodup ∧ ∀ b ∈ fx ++ f0, b ∈ fps
  | [], hp, us, fps, xs, hp', h, hr, hh, hn => by
    simp only [absL, Option.some.injEq, Prod.mk.injEq] at h
    obtain ⟨rfl, rfl⟩ := h
    exact ⟨[], fps, hr, hh, by simpa using hn, by simp⟩
  | .c x :: r, hp, us, fps, xs, hp', h, hr, hh, hn => by
    simp only [absL] at h
    split at h
    · rename_i xs' hp'' hx
      simp only [Option.some.injEq, Prod.mk.injEq] at h
      obtain ⟨rfl, rfl⟩ := h
      obtain ⟨v, vs', f1, f2, rfl, hf, h1, h2⟩ := hr
      obtain ⟨rfl, rfl⟩ := List.append_eq_nil_iff.1 hf.symm
      obtain ⟨fx, f0, h3, h4, h5, h6⟩ := absL_sound r hp vs' fps xs' hp'' hx h2 hh hn
      exact ⟨fx, f0, ⟨v, vs', [], fx, rfl, rfl, h1, h3⟩, h4, h5, h6⟩
    · cases h
  | .sl id 0 n :: r, hp, us, fps, xs, hp', h, hr, hh, hn => by
    simp only [absL] at h
    split at h
    · rename_i ty e ys hl
      split at h
      · rename_i xs' hp'' hx
        simp only [Option.some.injEq, Prod.mk.injEq] at h
        obtain ⟨rfl, rfl⟩ := h
        obtain ⟨v, vs', f1, f2, rfl, hf, h1, h2⟩ := hr
        obtain ⟨rfl, rfl⟩ := List.append_eq_nil_iff.1 hf.symm
        obtain ⟨bi, fa, fb, fc, hg, rfl, hro, hd⟩ := HR_del hh hl
        have hn' : (fa ++ fc).Nodup := hn.sublist (List.Sublist.append (List.Sublist.refl _) (List.sublist_append_right _ _))
        obtain ⟨fx, f0, h3, h4, h5, h6⟩ := absL_sound r _ vs' _ xs' hp'' hx h2 hd hn'
        obtain ⟨_, bi', hg', h7, h8, rfl⟩ := h1
        obtain rfl : bi = bi' := by rw [hg] at hg'; exact Option.some.inj hg'
        refine ⟨fb ++ fx, f0, ⟨_, vs', fb, fx, rfl, rfl, ?_, h3⟩, h4, ?_, ?_⟩
        · simp only [RH, R]
          obtain ⟨h9, h10, ⟨h11, h12, h13, h14⟩ | ⟨b, cur, f, h11, h12, h13, h14, h15⟩⟩ := hro
          · left
            refine ⟨?_, by omega, h12, h14⟩
            rw [h11, h13]
            have : n = 0 := by omega
            subst this
            rfl
          · right
            refine ⟨b, bi.cap, cur, f, ?_, by omega, h8, h13, h14, h12, h15⟩
            rw [h11]
            simp [slv]
        · rw [List.append_assoc]
          rw [List.nodup_append] at hn ⊢
          obtain ⟨n1, n2, n3⟩ := hn
          rw [List.nodup_append] at n2
          refine ⟨n2.1, h5, fun a ha b hb => ?_⟩
          rcases List.mem_append.1 (h6 b hb) with hb1 | hb3
          · exact (n3 b hb1 a (List.mem_append_left _ ha)).symm
          · exact n2.2.2 a ha b hb3
        · intro b hb
          rw [List.append_assoc] at hb
          rcases List.mem_append.1 hb with hb | hb
          · exact List.mem_append_right _ (List.mem_append_left _ hb)
          · rcases List.mem_append.1 (h6 b hb) with hb | hb
            · exact List.mem_append_left _ hb
            · exact List.mem_append_right _ (List.mem_append_right _ hb)
      · cases h
    · cases h
  | .sl id (i + 1) n :: r, hp, us, fps, xs, hp', h, hr, hh, hn => by simp [absL] at h
  | .sw .. :: r, hp, us, fps, xs, hp', h, hr, hh, hn => by simp [absL] at h
  | .ptr .. :: r, hp, us, fps, xs, hp', h, hr, hh, hn => by simp [absL] at h
  | .rp .. :: r, hp, us, fps, xs, hp', h, hr, hh, hn => by simp [absL] at h
/-- n times the cells of one element. -/
def reps {α : Type} (zs : List α) : Nat → List α
  | 0 => []
  | n + 1 => zs ++ reps zs n
theorem reps_length {α : Type} (zs : List α) : ∀ n, (reps zs n).length = n * zs.length
  | 0 => by simp [reps]
  | n + 1 => by simp [reps, reps_length zs n, Nat.add_mul, Nat.add_comm]
theorem reps_get {α : Type} (zs : List α) : ∀ (n j : Nat), j < n * zs.length → (reps zs n)[j]? = zs[j % zs.length]?
  | 0, j, h => by simp at h
  | n + 1, j, h => by
    simp only [reps]
    by_cases hj : j < zs.length
    · rw [List.getElem?_append_left hj, Nat.mod_eq_of_lt hj]
    · have hlt : j - zs.length < n * zs.length := by rw [Nat.add_mul] at h; omega
      rw [List.getElem?_append_right (by omega), reps_get zs n _ hlt, ← Nat.mod_eq_sub_mod (by omega)]
theorem madeCells_reps (z : Array Value) (n : Nat) (hz : 0 < z.size) : (madeCells z (n * z.size)).toList = reps z.toList n := by
  apply List.ext_getElem?
  intro j
  by_cases hj : j < n * z.size
  · rw [reps_get _ _ _ (by simpa using hj)]
    have hm : j % z.size < z.size := Nat.mod_lt _ hz
    simp [madeCells, hj, hm]
  · rw [List.getElem?_eq_none (by simp [madeCells]; omega), List.getElem?_eq_none (by rw [reps_length]; simpa using hj)]
theorem RHs_reps {g : Ga} {im : Im} {w : World} {zs : List HV} {vs : List Value} (h : RHs g im w zs vs []) : ∀ n, RHs g im w (reps zs n) (reps vs n) []
  | 0 => ⟨rfl, rfl⟩
  | n + 1 => by have := RHs_append _ _ _ _ _ _ h (RHs_reps h n); simpa [reps] using this
end Go.Proofs.Ytjijkdhjfanpaaa
