/- The engine, last part: a row of the call's own that is only read from here on. -/
import Derived.Test.YtjijkdhjfanpaaaEz
namespace Go.Proofs.Ytjijkdhjfanpaaa
open Go.RowKit
def HV.frz (id T e : Nat) (xs : List CV) : HV → HV
  | .sl j i n => bif Nat.beq j id then .c (.rd T n (CV.brws T (xs.drop (i * e)))) else .sl j i n
  | x => x
def HV.frzs (id T e : Nat) (xs : List CV) : List HV → List HV
  | [] => []
  | y :: ys => y.frz id T e xs :: HV.frzs id T e xs ys
mutual
def AV.frz (id T e : Nat) (xs : List CV) : AV → AV
  | .h x => .h (x.frz id T e xs)
  | .agg ys => .agg (HV.frzs id T e xs ys)
  | .tup ys => .tup (AV.frzs id T e xs ys)
  | .top => .top
def AV.frzs (id T e : Nat) (xs : List CV) : List AV → List AV
  | [] => []
  | y :: ys => y.frz id T e xs :: AV.frzs id T e xs ys
end
def Ob.frz (id T e : Nat) (xs : List CV) : Ob → Ob
  | .arr ty e' ys => .arr ty e' ys
  | .box ty ys => .box ty (HV.frzs id T e xs ys)
  | .hrr ty e' ys => .hrr ty e' (HV.frzs id T e xs ys)
def frzF (id T e : Nat) (xs : List CV) : List (Nat × AV) → List (Nat × AV)
  | [] => []
  | (d, x) :: r => (d, x.frz id T e xs) :: frzF id T e xs r
def frzO (id T e : Nat) (xs : List CV) : List (Nat × Ob) → List (Nat × Ob)
  | [] => []
  | (d, x) :: r => (d, x.frz id T e xs) :: frzO id T e xs r
theorem look_frzF {id T e : Nat} {xs : List CV} {t : Nat} {y : AV} : ∀ {fr : List (Nat × AV)}, look t (frzF id T e xs fr) = some y → ∃ x, look t fr = some x ∧ y = x.frz id T e xs
  | [], h => by simp [frzF, look] at h
  | (d, x) :: r, h => by
    by_cases ht : t = d
    · subst ht
      simp only [frzF, look_cons_eq, Option.some.injEq] at h
      exact ⟨x, look_cons_eq _ _ _, h.symm⟩
    · simp only [frzF, look_cons_ne ht] at h ⊢
      exact look_frzF h
section
variable {g : Ga} {im im' : Im} {w : World} {id T e : Nat} {xs : List CV}
theorem RH_frz (hi : ∀ t b, im t b → im' t b ∧ w.heap[b]? = w.heap[b]?) (hkey : ∀ i n v fp, RH g im w (.sl id i n) v fp → RH g im' w (.c (.rd T n (CV.brws T (xs.drop (i * e))))) v []) : ∀ (x : HV) (v : Value) (fp : List Nat), RH g im w x v fp → RH g im' w (x.frz id T e xs) v fp := by
  intro x v fp h
  cases x with
  | sl j i n =>
    simp only [HV.frz]
    cases hb : Nat.beq j id with
    | true =>
      have := Nat.eq_of_beq_eq_true hb
      subst this
      have hfp : fp = [] := h.1
      subst hfp
      exact hkey i n v [] h
    | false => exact RH_mono (fun _ _ h => h) hi _ v fp (fun _ _ => rfl) h
  | c x => exact RH_mono (fun _ _ h => h) hi _ v fp (fun _ _ => rfl) h
  | sw j i n => exact RH_mono (fun _ _ h => h) hi _ v fp (fun _ _ => rfl) h
  | ptr j o => exact RH_mono (fun _ _ h => h) hi _ v fp (fun _ _ => rfl) h
  | rp t ys => exact RH_mono (fun _ _ h => h) hi _ v fp (fun _ _ => rfl) h
theorem RHs_frz (hi : ∀ t b, im t b → im' t b ∧ w.heap[b]? = w.heap[b]?) (hkey : ∀ i n v fp, RH g im w (.sl id i n) v fp → RH g im' w (.c (.rd T n (CV.brws T (xs.drop (i * e))))) v []) : ∀ (ys : List HV) (vs : List Value) (fp : List Nat), RHs g im w ys vs fp → RHs g im' w (HV.frzs id T e xs ys) vs fp
  | [], vs, fp, h => h
  | y :: ys, vs, fp, h => by
    obtain ⟨v, vs', f1, f2, rfl, rfl, h1, h2⟩ := h
    exact ⟨v, vs', f1, f2, rfl, rfl, RH_frz hi hkey y v f1 h1, RHs_frz hi hkey ys vs' f2 h2⟩
mutual
theorem RA_frz (hi : ∀ t b, im t b → im' t b ∧ w.heap[b]? = w.heap[b]?) (hkey : ∀ i n v fp, RH g im w (.sl id i n) v fp → RH g im' w (.c (.rd T n (CV.brws T (xs.drop (i * e))))) v []) : ∀ (x : AV) (v : Value) (fp : List Nat), RA g im w x v fp → RA g im' w (x.frz id T e xs) v fp
  | .h x, v, fp, h => by simp only [RA, AV.frz] at h ⊢; exact RH_frz hi hkey x v fp h
  | .agg ys, v, fp, h => by
    simp only [RA, AV.frz] at h ⊢
    obtain ⟨cs, h1, h2⟩ := h
    exact ⟨cs, h1, RHs_frz hi hkey ys cs fp h2⟩
  | .tup ys, v, fp, h => by
    simp only [RA, AV.frz] at h ⊢
    obtain ⟨cs, h1, h2⟩ := h
    exact ⟨cs, h1, RAs_frz hi hkey ys cs fp h2⟩
  | .top, v, fp, h => by simpa only [RA, AV.frz] using h
theorem RAs_frz (hi : ∀ t b, im t b → im' t b ∧ w.heap[b]? = w.heap[b]?) (hkey : ∀ i n v fp, RH g im w (.sl id i n) v fp → RH g im' w (.c (.rd T n (CV.brws T (xs.drop (i * e))))) v []) : ∀ (ys : List AV) (vs : List Value) (fp : List Nat), RAs g im w ys vs fp → RAs g im' w (AV.frzs id T e xs ys) vs fp
  | [], vs, fp, h => by simpa only [RAs, AV.frzs] using h
  | y :: ys, vs, fp, h => by
    simp only [RAs, AV.frzs] at h ⊢
    obtain ⟨v, vs', f1, f2, rfl, rfl, h1, h2⟩ := h
    exact ⟨v, vs', f1, f2, rfl, rfl, RA_frz hi hkey y v f1 h1, RAs_frz hi hkey ys vs' f2 h2⟩
end
theorem HR_frz (hi : ∀ t b, im t b → im' t b ∧ w.heap[b]? = w.heap[b]?) (hkey : ∀ i n v fp, RH g im w (.sl id i n) v fp → RH g im' w (.c (.rd T n (CV.brws T (xs.drop (i * e))))) v []) : ∀ (hp : List (Nat × Ob)) (fp : List Nat), HR g im w hp fp → HR g im' w (frzO id T e xs hp) fp
  | [], fp, h => h
  | (j, o) :: r, fp, h => by
    obtain ⟨bi, f1, f2, h1, rfl, h3, h4⟩ := h
    refine ⟨bi, f1, f2, h1, rfl, ?_, HR_frz hi hkey r f2 h4⟩
    cases o with
    | arr ty e' ys => exact RO_mono (fun _ _ h => h) hi bi _ f1 (fun _ _ => rfl) h3
    | box ty ys =>
      obtain ⟨b, cs, f, q1, q2, q3, q4⟩ := h3
      exact ⟨b, cs, f, q1, q2, q3, RHs_frz hi hkey ys cs f q4⟩
    | hrr ty e' ys =>
      obtain ⟨h1, h2, h3 | ⟨b, cur, f', us, h4, rfl, h6, h7, h8, h9⟩⟩ := h3
      · obtain ⟨q1, q2, q3, q4⟩ := h3
        exact ⟨h1, h2, .inl ⟨q1, by rw [q2]; rfl, q3, q4⟩⟩
      · exact ⟨h1, h2, .inr ⟨b, cur, f', us, h4, rfl, h6, h7, RHs_frz hi hkey ys us f' h8, h9⟩⟩
end
theorem sim_freeze {E : Env} {g : Ga} {im : Im} {fr : List (Nat × AV)} {hp : List (Nat × Ob)} {nx : Nat} {a : Act} {w : World} (id T : Nat) (hT : Nat.ble 100 T = true) {ty e : Nat} {xs : List CV} (hl : look id hp = some (.arr ty e xs)) (h : Sim E g im ⟨fr, hp, nx⟩ a w) :
    ∃ im', Sim E g im' ⟨frzF id T e xs fr, frzO id T e xs (del id hp), nx⟩ a w := by
  obtain ⟨fps, hs⟩ := h
  have hT' := Nat.le_of_ble_eq_true hT
  obtain ⟨bi, f1, f2, f3, hg, hf, hro, hrest⟩ := HR_del hs.hp hl
  have hf' : fps = f1 ++ (f2 ++ f3) := hf
  let im' : Im := fun t b => im t b ∨ (t = T ∧ b ∈ f2)
  have hi : ∀ t b, im t b → im' t b ∧ w.heap[b]? = w.heap[b]? := fun t b h => ⟨.inl h, rfl⟩
  have hkey : ∀ i n v fp, RH g im w (.sl id i n) v fp → RH g im' w (.c (.rd T n (CV.brws T (xs.drop (i * e))))) v [] := by
    intro i n v fp hr
    obtain ⟨_, bi', h1, h2, h3, h4⟩ := hr
    obtain rfl : bi = bi' := by rw [hg] at h1; exact Option.some.inj h1
    obtain ⟨r1, r2, ⟨r3, r4, r5, r6⟩ | ⟨b, cur, f, r3, r4, r5, r6, r7⟩⟩ := hro
    · simp only [RH, R]
      refine ⟨trivial, none, bi.cap - i, by rw [h4, r3]; rfl, by omega, by omega, .inl ?_⟩
      rw [r4]; simp [CV.brws]
    · obtain ⟨f', hf', r8⟩ := RL_drop xs (i * e) 0 f r7
      have r9 := RL_brws (T := T) (im' := im') (fun t b h => .inl h) _ b (0 + i * e) f' r8 (fun c hc => .inr ⟨rfl, by rw [r4]; exact List.mem_cons_of_mem _ (hf'.subset hc)⟩)
      simp only [RH, R]
      refine ⟨trivial, some ⟨b, i * bi.e, none⟩, bi.cap - i, by rw [h4, r3]; rfl, by omega, by omega, .inr ⟨b, i * bi.e, rfl, .inr ⟨rfl, by rw [r4]; exact List.mem_cons_self⟩, ?_⟩⟩
      rw [r2]
      simpa using r9
  have hsub : ∀ b ∈ f1 ++ f3, b ∈ fps := fun b hb => by
    rw [hf']
    rcases List.mem_append.1 hb with h | h
    · exact List.mem_append_left _ h
    · exact List.mem_append_right _ (List.mem_append_right _ h)
  have hnd := hs.nd
  rw [hf', List.nodup_append] at hnd
  obtain ⟨n1, n2, n3⟩ := hnd
  rw [List.nodup_append] at n2
  have hf2 : ∀ b ∈ f2, b ∈ fps := fun b hb => by rw [hf']; exact List.mem_append_right _ (List.mem_append_left _ hb)
  refine ⟨im', f1 ++ f3, ⟨hs.dfr, hs.sz, ?_, HR_frz hi hkey _ _ hrest, ?_, fun b hb => hs.lt b (hsub b hb), ?_, fun b hb => hs.mine b (hsub b hb), hs.gn, hs.gl, ?_, hs.kp, hs.kn, hs.g0, fun t b h => .inl (hs.i0 t b h), ?_⟩⟩
  · intro t y hy
    obtain ⟨x, hx, rfl⟩ := look_frzF hy
    exact RA_frz hi hkey x _ [] (hs.fr t x hx)
  · rw [List.nodup_append]
    exact ⟨n1, n2.2.1, fun x hx y hy => n3 x hx y (List.mem_append_right _ hy)⟩
  · intro b hb t ht
    rcases ht with ht | ⟨_, ht⟩
    · exact hs.ni b (hsub b hb) t ht
    · rcases List.mem_append.1 hb with h | h
      · exact n3 b h b (List.mem_append_left _ ht) rfl
      · exact n2.2.2 b ht b h rfl
  · intro t b ht
    rcases ht with ht | ⟨_, ht⟩
    · exact hs.il t b ht
    · exact hs.lt b (hf2 b ht)
  · intro t b h1 h2
    rcases h2 with h2 | ⟨h2, _⟩
    · exact hs.i1 t b h1 h2
    · omega
section
variable {E : Env} {l rest : List Oper} {fr : List (Nat × AV)} {hp : List (Nat × Ob)} {nx : Nat} {Q : Exit → AS → Prop}
theorem al_freeze (id T : Nat) (hT : Nat.ble 100 T = true) {ty e : Nat} {xs : List CV} (hl : look id hp = some (.arr ty e xs)) (kk : AL E l rest ⟨frzF id T e xs fr, frzO id T e xs (del id hp), nx⟩ Q) : AL E l rest ⟨fr, hp, nx⟩ Q := fun g _ a w h => by
  obtain ⟨im', h'⟩ := sim_freeze id T hT hl h
  exact kk g im' a w h'
theorem awp_freeze {c : Code} (id T : Nat) (hT : Nat.ble 100 T = true) {ty e : Nat} {xs : List CV} (hl : look id hp = some (.arr ty e xs)) (kk : AWP E c ⟨frzF id T e xs fr, frzO id T e xs (del id hp), nx⟩ Q) : AWP E c ⟨fr, hp, nx⟩ Q := fun g _ a w h => by
  obtain ⟨im', h'⟩ := sim_freeze id T hT hl h
  exact kk g im' a w h'
end
end Go.Proofs.Ytjijkdhjfanpaaa
