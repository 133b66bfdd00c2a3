/- The engine, part zf: rows of rows of the call's own: opening a row, closing it; the greater of two numbers. -/
import Derived.Test.YtjijkdhjfanpaaaEze
namespace Go.Proofs.Ytjijkdhjfanpaaa
open Go.RowKit
attribute [local irreducible] AWP AL XT AC ES PS AH AH2
def RLH (g : Ga) (im : Im) (w : World) (b : Nat) : List HV → Nat → List Nat → Prop
  | [], _, fp => fp = []
  | x :: xs, o, fp => ∃ u f1 f2, fp = f1 ++ f2 ∧ w.cell? ⟨b, o, none⟩ = some u ∧ RH g im w x u f1 ∧ RLH g im w b xs (o + 1) f2
theorem RLH_of {g : Ga} {im : Im} {w : World} {b : Nat} : ∀ (xs : List HV) (us : List Value) (o : Nat) (f : List Nat), RHs g im w xs us f → (∀ j u, us[j]? = some u → w.cell? ⟨b, o + j, none⟩ = some u) → RLH g im w b xs o f
  | [], us, o, f, h, _ => h.2
  | x :: xs, us, o, f, h, hc => by
    obtain ⟨v, vs', f1, f2, rfl, rfl, h1, h2⟩ := h
    refine ⟨v, f1, f2, rfl, by simpa using hc 0 v rfl, h1, RLH_of xs vs' (o + 1) f2 h2 fun j u hj => ?_⟩
    have := hc (j + 1) u (by simpa using hj)
    simpa [Nat.add_assoc, Nat.add_comm 1] using this
theorem RLH_to {g : Ga} {im : Im} {w : World} {b : Nat} : ∀ (xs : List HV) (o : Nat) (f : List Nat), RLH g im w b xs o f → ∃ us, RHs g im w xs us f ∧ ∀ j u, us[j]? = some u → w.cell? ⟨b, o + j, none⟩ = some u
  | [], o, f, h => ⟨[], ⟨rfl, h⟩, by simp⟩
  | x :: xs, o, f, h => by
    obtain ⟨u, f1, f2, rfl, h4, h5, h6⟩ := h
    obtain ⟨us, h1, h2⟩ := RLH_to xs (o + 1) f2 h6
    refine ⟨u :: us, ⟨u, us, f1, f2, rfl, rfl, h5, h1⟩, ?_⟩
    intro j v hj
    cases j with
    | zero => simp at hj; subst hj; exact h4
    | succ j => have := h2 j v (by simpa using hj); simpa [Nat.add_assoc, Nat.add_comm 1] using this
theorem RLH_map {g : Ga} {im : Im} {w : World} {b : Nat} : ∀ (xs : List CV) (o : Nat) (f : List Nat), RLH g im w b (xs.map HV.c) o f ↔ RL im w b xs o f
  | [], o, f => by simp only [List.map_nil, RLH, RL]
  | x :: xs, o, f => by
    simp only [List.map_cons, RLH, RL, RH]
    constructor
    · rintro ⟨u, f1, f2, h1, h2, h3, h4⟩; exact ⟨u, f1, f2, h1, h2, h3, (RLH_map xs _ _).1 h4⟩
    · rintro ⟨u, f1, f2, h1, h2, h3, h4⟩; exact ⟨u, f1, f2, h1, h2, h3, (RLH_map xs _ _).2 h4⟩
theorem RLH_app {g : Ga} {im : Im} {w : World} {b : Nat} : ∀ (xs ys : List HV) (o : Nat) (f : List Nat), RLH g im w b (xs ++ ys) o f ↔ ∃ f1 f2, f = f1 ++ f2 ∧ RLH g im w b xs o f1 ∧ RLH g im w b ys (o + xs.length) f2
  | [], ys, o, f => ⟨fun h => ⟨[], f, rfl, rfl, by simpa using h⟩, fun ⟨f1, f2, h1, h2, h3⟩ => by simp only [RLH] at h2; subst h2; simpa [h1] using h3⟩
  | x :: xs, ys, o, f => by
    simp only [List.cons_append, RLH, List.length_cons]
    constructor
    · rintro ⟨u, f1, f2, rfl, h4, h5, h6⟩
      obtain ⟨fa, fb, rfl, ha, hb⟩ := (RLH_app xs ys (o + 1) f2).1 h6
      exact ⟨f1 ++ fa, fb, by simp, ⟨u, f1, fa, rfl, h4, h5, ha⟩, by rw [show o + (xs.length + 1) = o + 1 + xs.length by omega]; exact hb⟩
    · rintro ⟨fa, fb, rfl, ⟨u, f1, f2, rfl, h4, h5, ha⟩, hb⟩
      exact ⟨u, f1, f2 ++ fb, by simp, h4, h5, (RLH_app xs ys (o + 1) (f2 ++ fb)).2 ⟨f2, fb, rfl, ha, by rw [show o + 1 + xs.length = o + (xs.length + 1) by omega]; exact hb⟩⟩
theorem RLH_mono {g g' : Ga} {im : Im} {w : World} {b : Nat} (hg : ∀ i bi, g i = some bi → g' i = some bi) : ∀ (xs : List HV) (o : Nat) (f : List Nat), RLH g im w b xs o f → RLH g' im w b xs o f
  | [], o, f, h => h
  | x :: xs, o, f, h => by
    obtain ⟨u, f1, f2, rfl, h4, h5, h6⟩ := h
    exact ⟨u, f1, f2, rfl, h4, RH_mono hg (fun t b h => ⟨h, rfl⟩) x u f1 (fun _ _ => rfl) h5, RLH_mono hg xs (o + 1) f2 h6⟩
/-- The frame's and the world's description with the same world, other objects. -/
theorem SimF.same {E : Env} {g g' : Ga} {im : Im} {fps fps' : List Nat} {fr : List (Nat × AV)} {hp hp' : List (Nat × Ob)} {nx nx' : Nat} {a : Act} {w : World} (hs : SimF E g im fps ⟨fr, hp, nx⟩ a w) (hg : ∀ i bi, g i = some bi → g' i = some bi) (hhp : HR g' im w hp' fps') (hnd : fps'.Nodup) (hsub : ∀ b ∈ fps', b ∈ fps)
    (hgn : ∀ i, nx' ≤ i → g' i = none) (hgl : ∀ i bi b, g' i = some bi → bi.a = some b → b < w.heap.size) (hnx : nx ≤ nx') (hlow : ∀ i, i < nx → g' i = g i) : SimF E g' im fps' ⟨fr, hp', nx'⟩ a w :=
  ⟨hs.dfr, hs.sz, fun t x hx => RA_mono hg (fun t b h => ⟨h, rfl⟩) x _ [] (fun _ h => by cases h) (hs.fr t x hx), hhp, hnd, fun b hb => hs.lt b (hsub b hb), fun b hb => hs.ni b (hsub b hb), fun b hb => hs.mine b (hsub b hb), hgn, hgl, hs.il, hs.kp, Nat.le_trans hs.kn hnx,
    fun i hi => by rw [hlow i (Nat.lt_of_lt_of_le hi hs.kn)]; exact hs.g0 i hi, hs.i0, hs.i1⟩
/-- A row in a row is opened: it has a name, and its cell holds its handle. -/
theorem sim_open {E : Env} {g : Ga} {im : Im} {fr : List (Nat × AV)} {hp : List (Nat × Ob)} {nx : Nat} {a : Act} {w : World} (id : Nat) {ty e ty' e' n : Nat} {pre post ys : List CV} (hl : look id hp = some (.arr ty e (pre ++ .ow ty' e' n ys :: post))) (h : Sim E g im ⟨fr, hp, nx⟩ a w) :
    ∃ g', Sim E g' im ⟨fr, (nx, .arr ty' e' ys) :: upd id (.hrr ty e (pre.map HV.c ++ .sl nx 0 n :: post.map HV.c)) hp, nx + 1⟩ a w := by
  obtain ⟨fps, hs⟩ := h
  obtain ⟨l1, l2, rfl, hu, _⟩ := look_split hl
  obtain ⟨g1, g2, rfl, q1, q2⟩ := (HR_append _ _ _).1 hs.hp
  obtain ⟨bi, g3, g4, q3, rfl, q5, q6⟩ := q2
  obtain ⟨r1, r2, ⟨r3, r4, r5, r6⟩ | ⟨b, cur, f, r3, r4, r5, r6, r7⟩⟩ := q5
  · exact absurd r4 (by simp)
  have r8 := (RLH_map (g := g) _ _ _).2 r7
  rw [List.map_append, List.map_cons, RLH_app] at r8
  obtain ⟨fa, fc, rfl, s1, s2⟩ := r8
  obtain ⟨u, fo, fb, rfl, s3, s4, s5⟩ := s2
  have key : ∃ bi', RO (gup g nx bi') im w bi' (.arr ty' e' ys) fo ∧ RH (gup g nx bi') im w (.sl nx 0 n) u [] ∧ (∀ b', bi'.a = some b' → b' ∈ fo) := by
    simp only [RH, R] at s4
    rcases s4 with ⟨t1, t2, t3, t4⟩ | ⟨b', c', cur', f', t1, t2, t3, t4, t5, t6, t7⟩
    · refine ⟨⟨none, 0, ty', e'⟩, ⟨rfl, rfl, .inl ⟨rfl, t3, rfl, t4⟩⟩, ⟨rfl, ⟨none, 0, ty', e'⟩, by simp [gup], by simp [t2], Nat.zero_le _, by rw [t1, t2]; rfl⟩, fun b' hb => by cases hb⟩
    · refine ⟨⟨some b', c', ty', e'⟩, ⟨rfl, rfl, .inr ⟨b', cur', f', rfl, t6, t4, t5, t7⟩⟩, ⟨rfl, ⟨some b', c', ty', e'⟩, by simp [gup], by simpa using t2, t3, by rw [t1]; simp [slv]⟩, fun b'' hb => by
        injection hb with hb; subst hb; rw [t6]; exact List.mem_cons_self⟩
  obtain ⟨bi', k1, k2, k3⟩ := key
  have hg := gup_old (bi := bi') hs.gn
  have hperm : (fo ++ (g1 ++ ((b :: (fa ++ fb)) ++ g4))).Perm (g1 ++ (g3 ++ g4)) := by
    rw [r4]
    exact List.perm_iff_count.2 fun x => by simp only [List.count_append, List.count_cons]; omega
  have hmem : ∀ c, c ∈ fo ++ (g1 ++ ((b :: (fa ++ fb)) ++ g4)) → c ∈ g1 ++ (g3 ++ g4) := fun c hc => hperm.mem_iff.1 hc
  refine ⟨gup g nx bi', _, hs.same hg (fps' := fo ++ (g1 ++ ((b :: (fa ++ fb)) ++ g4))) ?_ (hperm.nodup_iff.2 hs.nd) hmem ?_ ?_ (Nat.le_succ _) ?_⟩
  · refine ⟨bi', fo, _, by simp [gup], rfl, k1, ?_⟩
    rw [hu]
    refine (HR_append _ _ _).2 ⟨g1, _, rfl, HR_mono hg (fun t b h => ⟨h, rfl⟩) _ _ (fun _ _ => rfl) q1, bi, b :: (fa ++ fb), g4, hg _ _ q3, rfl, ?_, HR_mono hg (fun t b h => ⟨h, rfl⟩) _ _ (fun _ _ => rfl) q6⟩
    have hR : RLH (gup g nx bi') im w b (pre.map HV.c ++ .sl nx 0 n :: post.map HV.c) 0 (fa ++ fb) := by
      refine (RLH_app _ _ _ _).2 ⟨fa, fb, rfl, RLH_mono hg _ _ _ s1, u, [], fb, rfl, s3, k2, RLH_mono hg _ _ _ s5⟩
    obtain ⟨us, v1, v2⟩ := RLH_to _ _ _ hR
    exact ⟨r1, r2, .inr ⟨b, cur, fa ++ fb, us, r3, rfl, r5, r6, v1, fun j u hj => by simpa using v2 j u hj⟩⟩
  · intro i hi
    simp only [gup]
    rw [if_neg (by omega)]
    exact hs.gn i (by simp only; omega)
  · intro i bi2 b2 h1 h2
    simp only [gup] at h1
    split at h1
    · injection h1 with h1
      subst h1
      exact hs.lt _ (hmem _ (List.mem_append_left _ (k3 _ h2)))
    · exact hs.gl i bi2 b2 h1 h2
  · intro i hi
    simp only [gup]
    rw [if_neg (by omega)]
/-- .. and closed. -/
theorem sim_close {E : Env} {g : Ga} {im : Im} {fr : List (Nat × AV)} {hp : List (Nat × Ob)} {nx : Nat} {a : Act} {w : World} (id j : Nat) {ty e ty' e' n : Nat} {pre post ys : List CV} (hj : look j hp = some (.arr ty' e' ys)) (hl : look id (del j hp) = some (.hrr ty e (pre.map HV.c ++ .sl j 0 n :: post.map HV.c))) (h : Sim E g im ⟨fr, hp, nx⟩ a w) :
    Sim E g im ⟨fr, upd id (.arr ty e (pre ++ .ow ty' e' n ys :: post)) (del j hp), nx⟩ a w := by
  obtain ⟨fps, hs⟩ := h
  obtain ⟨bj, m1, m2, m3, mg, hf, mro, md⟩ := HR_del hs.hp hj
  obtain ⟨l1, l2, hp0, hu, _⟩ := look_split hl
  rw [hp0] at md
  obtain ⟨g1, g2, hfe, q1, q2⟩ := (HR_append _ _ _).1 md
  obtain ⟨bi, g3, g4, q3, rfl, q5, q6⟩ := q2
  obtain ⟨r1, r2, ⟨r3, r4, r5, r6⟩ | ⟨b, cur, f, us, r3, r4, r5, r6, r7, r8⟩⟩ := q5
  · exact absurd r4 (by simp)
  have r9 := RLH_of (b := b) _ us 0 f r7 fun j u hj => by simpa using r8 j u hj
  obtain ⟨fa, fc, rfl, s1, s2⟩ := (RLH_app _ _ _ _).1 r9
  obtain ⟨u, fo, fb, rfl, s3, s4, s5⟩ := s2
  simp only [RH] at s4
  obtain ⟨t0, bj', t1, t2, t3, t4⟩ := s4
  obtain rfl : bj = bj' := by rw [mg] at t1; exact Option.some.inj t1
  subst t0
  have hR : R im w (.ow ty' e' n ys) u m2 := by
    simp only [R]
    obtain ⟨v1, v2, ⟨v3, v4, v5, v6⟩ | ⟨b', cur', f', v3, v4, v5, v6, v7⟩⟩ := mro
    · have hn0 : n = 0 := by omega
      exact .inl ⟨by rw [t4, v3, hn0, v5]; rfl, hn0, v4, v6⟩
    · exact .inr ⟨b', bj.cap, cur', f', by rw [t4, v3]; simp [slv], by omega, t3, v5, v6, v4, v7⟩
  have hperm : (g1 ++ ((b :: (fa ++ (m2 ++ fb))) ++ g4)).Perm fps := by
    have e1 : m1 ++ m3 = g1 ++ ((b :: (fa ++ ([] ++ fb))) ++ g4) := by rw [hfe, r4]
    rw [hf]
    refine List.perm_iff_count.2 fun x => ?_
    have := congrArg (List.count x) e1
    simp only [List.count_append, List.count_cons, List.count_nil] at this ⊢
    omega
  refine ⟨_, hs.same (fun _ _ h => h) (fps' := g1 ++ ((b :: (fa ++ (m2 ++ fb))) ++ g4)) ?_ (hperm.nodup_iff.2 hs.nd) (fun c hc => hperm.mem_iff.1 hc) hs.gn hs.gl (Nat.le_refl _) fun _ _ => rfl⟩
  rw [hu]
  refine (HR_append _ _ _).2 ⟨g1, _, rfl, q1, bi, b :: (fa ++ (m2 ++ fb)), g4, q3, rfl, ⟨r1, r2, .inr ⟨b, cur, fa ++ (m2 ++ fb), r3, rfl, r5, r6, ?_⟩⟩, q6⟩
  refine (RLH_map (g := g) _ _ _).1 ?_
  rw [List.map_append, List.map_cons]
  exact (RLH_app _ _ _ _).2 ⟨fa, m2 ++ fb, rfl, s1, u, m2, fb, rfl, s3, hR, s5⟩
/-- Nil cells told as owned empty rows. -/
def Wks : List CV → List CV → Prop
  | [], [] => True
  | x :: xs, y :: ys => (x = y ∨ (x = .nil ∧ ∃ ty e, y = .ow ty e 0 [])) ∧ Wks xs ys
  | _, _ => False
theorem RL_wks {im : Im} {w : World} {b : Nat} : ∀ (xs ys : List CV) (o : Nat) (f : List Nat), Wks xs ys → RL im w b xs o f → RL im w b ys o f
  | [], [], o, f, _, h => h
  | x :: xs, y :: ys, o, f, hw, h => by
    simp only [RL] at h ⊢
    obtain ⟨u, f1, f2, h1, h2, h3, h4⟩ := h
    refine ⟨u, f1, f2, h1, h2, ?_, RL_wks xs ys (o + 1) f2 hw.2 h4⟩
    rcases hw.1 with rfl | ⟨rfl, ty, e, rfl⟩
    · exact h3
    · simp only [R] at h3 ⊢
      exact .inl ⟨h3.1, trivial, trivial, h3.2⟩
  | [], y :: ys, _, _, hw, _ => hw.elim
  | x :: xs, [], _, _, hw, _ => hw.elim
theorem Wks_nil : ∀ {xs : List CV}, Wks xs [] → xs = []
  | [], _ => rfl
  | x :: xs, h => h.elim
theorem Wks_nil' : ∀ {ys : List CV}, Wks [] ys → ys = []
  | [], _ => rfl
  | x :: xs, h => h.elim
theorem sim_wk {E : Env} {g : Ga} {im : Im} {fr : List (Nat × AV)} {hp : List (Nat × Ob)} {nx : Nat} {a : Act} {w : World} (id : Nat) {ty e : Nat} {xs ys : List CV} (hl : look id hp = some (.arr ty e xs)) (hw : Wks xs ys) (h : Sim E g im ⟨fr, hp, nx⟩ a w) :
    Sim E g im ⟨fr, upd id (.arr ty e ys) hp, nx⟩ a w := by
  obtain ⟨fps, hs⟩ := h
  obtain ⟨l1, l2, rfl, hu, _⟩ := look_split hl
  obtain ⟨g1, g2, rfl, q1, q2⟩ := (HR_append _ _ _).1 hs.hp
  obtain ⟨bi, g3, g4, q3, rfl, q5, q6⟩ := q2
  refine ⟨_, hs.same (fun _ _ h => h) (fps' := g1 ++ (g3 ++ g4)) ?_ hs.nd (fun _ h => h) hs.gn hs.gl (Nat.le_refl _) fun _ _ => rfl⟩
  rw [hu]
  refine (HR_append _ _ _).2 ⟨g1, _, rfl, q1, bi, g3, g4, q3, rfl, ?_, q6⟩
  obtain ⟨r1, r2, ⟨r3, r4, r5, r6⟩ | ⟨b, cur, f, r3, r4, r5, r6, r7⟩⟩ := q5
  · subst r4
    exact ⟨r1, r2, .inl ⟨r3, Wks_nil' hw, r5, r6⟩⟩
  · exact ⟨r1, r2, .inr ⟨b, cur, f, r3, r4, r5, r6, RL_wks _ _ _ _ hw r7⟩⟩
section
variable {E : Env} {l rest : List Oper} {fr : List (Nat × AV)} {hp : List (Nat × Ob)} {nx : Nat} {Q : Exit → AS → Prop} {c : Code}
theorem al_open (id : Nat) {ty e ty' e' n : Nat} {pre post ys : List CV} (hl : look id hp = some (.arr ty e (pre ++ .ow ty' e' n ys :: post))) (kk : AL E l rest ⟨fr, (nx, .arr ty' e' ys) :: upd id (.hrr ty e (pre.map HV.c ++ .sl nx 0 n :: post.map HV.c)) hp, nx + 1⟩ Q) : AL E l rest ⟨fr, hp, nx⟩ Q := by
  unfold AL
  intro g im a w h
  obtain ⟨g', h'⟩ := sim_open id hl h
  unfold AL at kk
  exact kk g' im a w h'
theorem awp_open (id : Nat) {ty e ty' e' n : Nat} {pre post ys : List CV} (hl : look id hp = some (.arr ty e (pre ++ .ow ty' e' n ys :: post))) (kk : AWP E c ⟨fr, (nx, .arr ty' e' ys) :: upd id (.hrr ty e (pre.map HV.c ++ .sl nx 0 n :: post.map HV.c)) hp, nx + 1⟩ Q) : AWP E c ⟨fr, hp, nx⟩ Q := by
  unfold AWP
  intro g im a w h
  obtain ⟨g', h'⟩ := sim_open id hl h
  unfold AWP at kk
  exact kk g' im a w h'
theorem al_close (id j : Nat) {ty e ty' e' n : Nat} {pre post ys : List CV} (hj : look j hp = some (.arr ty' e' ys)) (hl : look id (del j hp) = some (.hrr ty e (pre.map HV.c ++ .sl j 0 n :: post.map HV.c))) (kk : AL E l rest ⟨fr, upd id (.arr ty e (pre ++ .ow ty' e' n ys :: post)) (del j hp), nx⟩ Q) : AL E l rest ⟨fr, hp, nx⟩ Q := by
  unfold AL at kk ⊢
  exact fun g im a w h => kk g im a w (sim_close id j hj hl h)
theorem awp_close (id j : Nat) {ty e ty' e' n : Nat} {pre post ys : List CV} (hj : look j hp = some (.arr ty' e' ys)) (hl : look id (del j hp) = some (.hrr ty e (pre.map HV.c ++ .sl j 0 n :: post.map HV.c))) (kk : AWP E c ⟨fr, upd id (.arr ty e (pre ++ .ow ty' e' n ys :: post)) (del j hp), nx⟩ Q) : AWP E c ⟨fr, hp, nx⟩ Q := by
  unfold AWP at kk ⊢
  exact fun g im a w h => kk g im a w (sim_close id j hj hl h)
theorem al_wk (id : Nat) {ty e : Nat} {xs : List CV} (ys : List CV) (hl : look id hp = some (.arr ty e xs)) (hw : Wks xs ys) (kk : AL E l rest ⟨fr, upd id (.arr ty e ys) hp, nx⟩ Q) : AL E l rest ⟨fr, hp, nx⟩ Q := by
  unfold AL at kk ⊢
  exact fun g im a w h => kk g im a w (sim_wk id hl hw h)
theorem awp_wk (id : Nat) {ty e : Nat} {xs : List CV} (ys : List CV) (hl : look id hp = some (.arr ty e xs)) (hw : Wks xs ys) (kk : AWP E c ⟨fr, upd id (.arr ty e ys) hp, nx⟩ Q) : AWP E c ⟨fr, hp, nx⟩ Q := by
  unfold AWP at kk ⊢
  exact fun g im a w h => kk g im a w (sim_wk id hl hw h)
end
/-! ### reading and writing a row that holds handles -/
section
variable {E : Env} {te : TE} {os : Option (List Nat)} {fl : Bool} {s : AS}
theorem ps_ixh {t e : Nat} {sz b' : Nat} {zs : List CV} {x ix : Operand} {id j n : Nat} {ty e' : Nat} {xs : List HV} {i : Int} {inf : TInf} (k : Nat) (hte : teOk E.P te = true)
    (hx : s.eval x = some (.h (.sl id j n))) (hi : s.eval ix = some (.h (.c (.int .i64 i)))) (hk : i = (k : Int)) (hn : k < n) (ht : look t te = some ⟨.slice e, sz, b', zs⟩) (he : look e te = some inf)
    (ho : look id s.hp = some (.hrr ty e' xs)) (hes : e' = inf.sz) : PS E os fl s (.indexAddr t x ix) (.h (.ptr id ((j + k) * inf.sz))) := by
  unfold PS
  intro g im ac w M n0 ⟨fps, hs⟩ hI
  have hv := hs.eval hx
  have e2 := RA_int (hs.eval hi)
  simp only [RA, RH] at hv
  obtain ⟨_, bi, hg, h3, h4, e1⟩ := hv
  subst hk hes
  obtain ⟨bi', f1, f2, f3, hg', hf, hro⟩ := look_HR hs.hp ho
  obtain rfl : bi = bi' := by rw [hg] at hg'; exact Option.some.inj hg'
  obtain ⟨h5, h6, ⟨_, _, h8, _⟩ | ⟨b, cur, f, us, h7, _⟩⟩ := hro
  · omega
  · refine ⟨.pointer (some ⟨b, (j + k) * inf.sz, none⟩), ?_, fun w' _ oo ho => ?_⟩
    · simp only [RA, RH]
      exact ⟨trivial, bi, b, hg, h7, rfl⟩
    · have hu := slice_und hte ht
      have hs' := size_of hte he w'
      rw [h7, h6] at e1
      simp [execOp, ho, e1, slv, e2, Instr.indexAt, asIntOf, run_underlying hu, hs', hn, addr_add, Nat.add_mul]
theorem RHs_drop_get {g : Ga} {im : Im} {w : World} (xs : List HV) (us : List Value) (f : List Nat) (o : Nat) (h : RHs g im w xs us f) : ∃ f', RHs g im w (xs.drop o) (us.drop o) f' := by
  induction o generalizing xs us f with
  | zero => exact ⟨f, by simpa using h⟩
  | succ o ih =>
    cases xs with
    | nil => obtain ⟨rfl, rfl⟩ := h; exact ⟨[], by simp [RHs]⟩
    | cons x xs =>
      obtain ⟨v, vs', f1, f2, rfl, rfl, h1, h2⟩ := h
      obtain ⟨f', h3⟩ := ih xs vs' f2 h2
      exact ⟨f', by simpa using h3⟩
theorem ps_ldh {t : Nat} {x : Operand} {id o : Nat} {ty e : Nat} {xs zs : List HV} {inf : TInf} {v : AV} (hte : teOk E.P te = true)
    (hx : s.eval x = some (.h (.ptr id o))) (ho : look id s.hp = some (.hrr ty e xs)) (hl : look t te = some inf) (hid : okid os id = true) (hd : xs.drop o = zs)
    (h : loadH inf zs = some v) : PS E os fl s (.load t x) v := by
  unfold PS
  intro g im ac w M n0 ⟨fps, hs⟩ hI
  have hv := hs.eval hx
  simp only [RA, RH] at hv
  obtain ⟨_, bi, b, hg, hba, e1⟩ := hv
  obtain ⟨bi', f1, f2, f3, hg', hf, hro⟩ := look_HR hs.hp ho
  obtain rfl : bi = bi' := by rw [hg] at hg'; exact Option.some.inj hg'
  obtain ⟨h5, h6, ⟨h7, _⟩ | ⟨b', cur, f, us, h7, rfl, h9, h10, h11, h12⟩⟩ := hro
  · rw [hba] at h7; cases h7
  · obtain rfl : b = b' := by rw [hba] at h7; exact Option.some.inj h7
    obtain ⟨f', hr'⟩ := RHs_drop_get xs us f o h11
    rw [hd] at hr'
    obtain ⟨h1, h2⟩ := loadH_RA (teOk_look hte hl).one h hr'
    refine ⟨_, h2, fun w' hw' oo ho' => ?_⟩
    have hsame := hw' b (hI.old id hid bi b hg hba).1 (hI.old id hid bi b hg hba).2
    have hrun := run_load_cells (P := E.P) hte hl w' b o ((us.drop o).take inf.sz) h1 (fun j u hu => by
      rw [cell_of_same hsame]
      rw [List.getElem?_take] at hu
      split at hu
      · rw [List.getElem?_drop] at hu
        exact h12 _ u hu
      · cases hu)
    simp only [execOp, ho', e1, Sem.run_bind, hrun, Result.andThen_ok, Sem.run_pure]
end
end Go.Proofs.Ytjijkdhjfanpaaa
