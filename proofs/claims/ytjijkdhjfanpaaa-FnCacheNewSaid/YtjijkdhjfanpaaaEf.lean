/- The engine, part f: a call uses a contract. -/
import Derived.Test.YtjijkdhjfanpaaaEe
namespace Go.Proofs.Ytjijkdhjfanpaaa
open Go.RowKit

section
variable {g g' : Ga} {im im' : Im} {w : World} {f : Nat → Nat} (hg : ∀ j bi, g j = some bi → g' (f j) = some bi)
include hg
theorem RH_map (hi : ∀ t b, im t b → im' t b) (x : HV) (v : Value) (fp : List Nat) (h : RH g im w x v fp) : RH g' im' w (x.ren f) v fp := by
  cases x with
  | c x => exact R_mono (fun t b hb => ⟨hi t b hb, rfl⟩) x v fp (fun _ _ => rfl) h
  | sl id i n =>
    obtain ⟨h1, bi, h2, h3⟩ := h
    exact ⟨h1, bi, hg _ _ h2, h3⟩
  | sw id i n =>
    obtain ⟨h1, bi, A, c, h2, h3⟩ := h
    exact ⟨h1, bi, A, c, hg _ _ h2, h3⟩
  | ptr id o =>
    obtain ⟨h1, bi, b, h2, h3⟩ := h
    exact ⟨h1, bi, b, hg _ _ h2, h3⟩
  | rp t xs =>
    obtain ⟨h1, b, o, h2, h3, h4⟩ := h
    exact ⟨h1, b, o, h2, hi t b h3, RL_mono (fun t b hb => ⟨hi t b hb, rfl⟩) xs b o [] rfl (fun _ h => by cases h) h4⟩
theorem RHs_map (hi : ∀ t b, im t b → im' t b) : ∀ (xs : List HV) (vs : List Value) (fp : List Nat), RHs g im w xs vs fp → RHs g' im' w (HV.rens f xs) vs fp
  | [], vs, fp, h => h
  | x :: xs, vs, fp, h => by
    obtain ⟨v, vs', f1, f2, rfl, rfl, h1, h2⟩ := h
    exact ⟨v, vs', f1, f2, rfl, rfl, RH_map hg hi x v f1 h1, RHs_map hi xs vs' f2 h2⟩
end
section
variable {g g' : Ga} {im im' : Im} {w : World} {f : Nat → Nat}
mutual
theorem RA_map (hg : ∀ j bi, g j = some bi → g' (f j) = some bi) (hi : ∀ t b, im t b → im' t b) : ∀ (x : AV) (v : Value) (fp : List Nat), RA g im w x v fp → RA g' im' w (x.ren f) v fp
  | .h x, v, fp, h => by simp only [RA, AV.ren] at h ⊢; exact RH_map hg hi x v fp h
  | .agg xs, v, fp, h => by
    simp only [RA, AV.ren] at h ⊢
    obtain ⟨cs, h1, h2⟩ := h
    exact ⟨cs, h1, RHs_map hg hi xs cs fp h2⟩
  | .tup xs, v, fp, h => by
    simp only [RA, AV.ren] at h ⊢
    obtain ⟨cs, h1, h2⟩ := h
    exact ⟨cs, h1, RAs_map hg hi xs cs fp h2⟩
  | .top, v, fp, h => by simpa only [RA, AV.ren] using h
theorem RAs_map (hg : ∀ j bi, g j = some bi → g' (f j) = some bi) (hi : ∀ t b, im t b → im' t b) : ∀ (xs : List AV) (vs : List Value) (fp : List Nat), RAs g im w xs vs fp → RAs g' im' w (AV.rens f xs) vs fp
  | [], vs, fp, h => by simpa only [RAs, AV.rens] using h
  | x :: xs, vs, fp, h => by
    simp only [RAs, AV.rens] at h ⊢
    obtain ⟨v, vs', f1, f2, rfl, rfl, h1, h2⟩ := h
    exact ⟨v, vs', f1, f2, rfl, rfl, RA_map hg hi x v f1 h1, RAs_map hg hi xs vs' f2 h2⟩
end
theorem RO_map (hg : ∀ j bi, g j = some bi → g' (f j) = some bi) (hi : ∀ t b, im t b → im' t b) {bi : BI} {o : Ob} {fp : List Nat} (h : RO g im w bi o fp) : RO g' im' w bi (o.ren f) fp := by
  cases o with
  | arr ty e xs =>
    obtain ⟨h1, h2, h3 | ⟨b, cur, f', h4, rfl, h6, h7, h8⟩⟩ := h
    · exact ⟨h1, h2, .inl h3⟩
    · exact ⟨h1, h2, .inr ⟨b, cur, f', h4, rfl, h6, h7, RL_mono (fun t b hb => ⟨hi t b hb, rfl⟩) xs b 0 f' rfl (fun _ _ => rfl) h8⟩⟩
  | box ty xs =>
    obtain ⟨b, cs, f', h4, rfl, h6, h8⟩ := h
    exact ⟨b, cs, f', h4, rfl, h6, RHs_map hg hi xs cs f' h8⟩
  | hrr ty e xs =>
    obtain ⟨h1, h2, h3 | ⟨b, cur, f', us, h4, rfl, h6, h7, h8, h9⟩⟩ := h
    · obtain ⟨q1, q2, q3, q4⟩ := h3
      exact ⟨h1, h2, .inl ⟨q1, by rw [q2]; rfl, q3, q4⟩⟩
    · exact ⟨h1, h2, .inr ⟨b, cur, f', us, h4, rfl, h6, h7, RHs_map hg hi xs us f' h8, h9⟩⟩
end
/-- The objects that come back, under the caller's names. -/
def named (f : Nat → Nat) (k : Nat) : List Ob → List (Nat × Ob)
  | [] => []
  | o :: os => (f k, o.ren f) :: named f (k + 1) os
theorem HR_named {g g' : Ga} {im im' : Im} {w : World} {f : Nat → Nat} (hg : ∀ j bi, g j = some bi → g' (f j) = some bi) (hi : ∀ t b, im t b → im' t b) : ∀ (k : Nat) (os : List Ob) (fp : List Nat), HR g im w (num k os) fp → HR g' im' w (named f k os) fp
  | k, [], fp, h => h
  | k, o :: os, fp, h => by
    obtain ⟨bi, f1, f2, h1, rfl, h3, h4⟩ := h
    exact ⟨bi, f1, f2, hg _ _ h1, rfl, RO_map hg hi h3, HR_named hg hi (k + 1) os f2 h4⟩

/-! ### what the callee sees -/
mutual
def CV.brw (T : Nat) : CV → CV
  | .ow _ _ n xs => .rd T n (CV.brws T xs)
  | .int k n => .int k n
  | .bool b => .bool b
  | .nil => .nil
  | .fn f => .fn f
  | .rd t n xs => .rd t n xs
def CV.brws (T : Nat) : List CV → List CV
  | [] => []
  | x :: xs => x.brw T :: CV.brws T xs
end
section
variable {im im' : Im} {w : World} {T : Nat}
mutual
theorem R_brw (hi : ∀ t b, im t b → im' t b) : ∀ (x : CV) (v : Value) (fp : List Nat), R im w x v fp → (∀ b ∈ fp, im' T b) → R im' w (x.brw T) v []
  | .int k n, v, fp, h, _ => by simp only [R, CV.brw] at h ⊢; exact ⟨h.1, trivial⟩
  | .bool b, v, fp, h, _ => by simp only [R, CV.brw] at h ⊢; exact ⟨h.1, trivial⟩
  | .nil, v, fp, h, _ => by simp only [R, CV.brw] at h ⊢; exact ⟨h.1, trivial⟩
  | .fn f, v, fp, h, _ => by simp only [R, CV.brw] at h ⊢; exact ⟨h.1, trivial⟩
  | .rd t n xs, v, fp, h, hf => by
    have hfp : fp = [] := by simp only [R] at h; exact h.1
    subst hfp
    simp only [CV.brw]
    exact R_mono (fun t b hb => ⟨hi t b hb, rfl⟩) _ v [] (fun _ _ => rfl) h
  | .ow ty e n xs, v, fp, h, hf => by
    simp only [R, CV.brw] at h ⊢
    rcases h with ⟨h1, h2, h3, h4⟩ | ⟨b, c, cur, f, h1, h2, h3, h4, h5, h6, h7⟩
    · subst h3 h2
      exact ⟨trivial, none, 0, h1, Nat.le_refl _, Nat.zero_le _, .inl (by simp [CV.brws])⟩
    · refine ⟨trivial, _, c, h1, h2, h3, .inr ⟨b, 0, rfl, hf b (by rw [h6]; exact List.mem_cons_self), ?_⟩⟩
      exact RL_brws hi xs b 0 f h7 (fun b hb => hf b (by rw [h6]; exact List.mem_cons_of_mem _ hb))
theorem RL_brws (hi : ∀ t b, im t b → im' t b) : ∀ (xs : List CV) (b o : Nat) (fp : List Nat), RL im w b xs o fp → (∀ b ∈ fp, im' T b) → RL im' w b (CV.brws T xs) o []
  | [], b, o, fp, h, _ => by simp only [CV.brws, RL]
  | x :: xs, b, o, fp, h, hf => by
    simp only [RL, CV.brws] at h ⊢
    obtain ⟨u, f1, f2, h1, h2, h3, h4⟩ := h
    subst h1
    exact ⟨u, [], [], rfl, h2, R_brw hi x u f1 h3 (fun b hb => hf b (List.mem_append_left _ hb)), RL_brws hi xs b (o + 1) f2 h4 (fun b hb => hf b (List.mem_append_right _ hb))⟩
end
end
def posn (id : Nat) : List Nat → Nat → Option Nat
  | [], _ => none
  | p :: ps, k => bif Nat.beq p id then some k else posn id ps (k + 1)
/-- A caller's handle, and what the callee is handed: slices of the objects ps are handed over, others are lent under the tag T. -/
def BorH (rest : List (Nat × Ob)) (ps : List Nat) (T : Nat) : HV → HV → Prop
  | .c x, y => y = .c x
  | .sl id i n, y => (∃ j, posn id ps 0 = some j ∧ y = .sl j i n) ∨ ∃ ty e xs ys m, look id rest = some (.arr ty e xs) ∧ CV.brws T ((xs.drop (i * e)).take m) = ys ∧ y = .c (.rd T n ys)
  | .sw id i n, y => ∃ ty e xs ys m, look id rest = some (.arr ty e xs) ∧ (n = 0 → m = 0) ∧ CV.brws T ((xs.drop (i * e)).take m) = ys ∧ y = .c (.rd T n ys)
  | .ptr id o, y => ∃ j, posn id ps 0 = some j ∧ y = .ptr j o
  | .rp t xs, y => y = .rp t xs
def BorHs (rest : List (Nat × Ob)) (ps : List Nat) (T : Nat) : List HV → List HV → Prop
  | [], [] => True
  | x :: xs, y :: ys => BorH rest ps T x y ∧ BorHs rest ps T xs ys
  | _, _ => False
def BorA (rest : List (Nat × Ob)) (ps : List Nat) (T : Nat) : AV → AV → Prop
  | .h x, .h y => BorH rest ps T x y
  | .agg xs, .agg ys => BorHs rest ps T xs ys
  | _, _ => False
def BorAs (rest : List (Nat × Ob)) (ps : List Nat) (T : Nat) : List AV → List AV → Prop
  | [], [] => True
  | x :: xs, y :: ys => BorA rest ps T x y ∧ BorAs rest ps T xs ys
  | _, _ => False
theorem posn_nth {id : Nat} : ∀ {ps : List Nat} {k j : Nat}, posn id ps k = some j → k ≤ j ∧ nth ps (j - k) = some id
  | [], k, j, h => by simp [posn] at h
  | p :: ps, k, j, h => by
    simp only [posn] at h
    cases hb : Nat.beq p id with
    | true =>
      rw [hb] at h
      simp only [cond_true, Option.some.injEq] at h
      subst h
      have := Nat.eq_of_beq_eq_true hb
      subst this
      simp [nth]
    | false =>
      rw [hb] at h
      obtain ⟨h1, h2⟩ := posn_nth (ps := ps) (by simpa using h)
      refine ⟨by omega, ?_⟩
      have : j - k = (j - (k + 1)) + 1 := by omega
      rw [this]
      exact h2
section
variable {g gc : Ga} {im imc : Im} {w : World} {rest : List (Nat × Ob)} {ps : List Nat} {T : Nat} {fb : List Nat} (hgc : ∀ j id bi, nth ps j = some id → g id = some bi → gc j = some bi) (hi : ∀ t b, im t b → imc t b) (hr : HR g im w rest fb) (hT : ∀ b ∈ fb, imc T b)
include hgc hi hr hT
theorem BorH_RH : ∀ (x y : HV) (v : Value), BorH rest ps T x y → RH g im w x v [] → RH gc imc w y v [] := by
  have view : ∀ (id i n : Nat) (ty e : Nat) (xs ys : List CV) (m : Nat) (bi : BI) (A : Option Addr) (c : Nat), g id = some bi → look id rest = some (.arr ty e xs) → CV.brws T ((xs.drop (i * e)).take m) = ys → n ≤ c → c ≤ maxLen →
      (xs ≠ [] → (n = 0 ∧ m = 0) ∨ ∃ b, bi.a = some b ∧ A = some ⟨b, i * bi.e, none⟩) → RH gc imc w (.c (.rd T n ys)) (.slice A n c) [] := by
    intro id i n ty e xs ys m bi A c hg hl hv h3 h4 hA
    obtain ⟨bi', f1, f2, f3, hg', hf, hro⟩ := look_HR hr hl
    obtain rfl : bi = bi' := by rw [hg] at hg'; exact Option.some.inj hg'
    have hsub : ∀ b ∈ f2, imc T b := fun b hb => hT b (by rw [hf]; exact List.mem_append_right _ (List.mem_append_left _ hb))
    simp only [RH, R]
    refine ⟨trivial, A, c, rfl, h3, h4, ?_⟩
    obtain ⟨h5, h6, ⟨h7, h8, _⟩ | ⟨b, cur, f, h7, rfl, h9, h10, h11⟩⟩ := hro
    · subst h8
      left
      rw [← hv]
      simp [CV.brws]
    · by_cases hx : xs = []
      · left; rw [← hv, hx]; simp [CV.brws]
      · rcases hA hx with ⟨_, hm⟩ | ⟨b', hb', hA⟩
        · left; rw [← hv, hm]; simp [CV.brws]
        · rw [h7] at hb'
          injection hb' with hb'
          subst hb'
          right
          refine ⟨b, i * bi.e, hA, hsub b List.mem_cons_self, ?_⟩
          obtain ⟨g1, hg1, hd⟩ := RL_drop xs (i * e) 0 f h11
          obtain ⟨g2, hg2, ht⟩ := RL_take _ m _ _ hd
          rw [← hv, h6]
          simp only [Nat.zero_add] at ht
          exact RL_brws hi _ b (i * e) g2 ht (fun b hb => hsub b (List.mem_cons_of_mem _ (hg1.subset (hg2.subset hb))))
  intro x y v h hx
  cases x with
  | c x =>
    simp only [BorH] at h
    subst h
    exact R_mono (fun t b hb => ⟨hi t b hb, rfl⟩) x v [] (fun _ _ => rfl) hx
  | sl id i n =>
    obtain ⟨_, bi, hg, h3, h4, rfl⟩ := hx
    rcases h with ⟨j, hj, rfl⟩ | ⟨ty, e, xs, ys, m, hl, hv, rfl⟩
    · obtain ⟨_, hn⟩ := posn_nth hj
      exact ⟨rfl, bi, hgc j id bi (by simpa using hn) hg, h3, h4, rfl⟩
    · unfold slv
      refine view id i n ty e xs ys m bi _ _ hg hl hv (by omega) (by omega) (fun hx => .inr ?_)
      obtain ⟨bi', f1, f2, f3, hg', hf, hro⟩ := look_HR hr hl
      obtain rfl : bi = bi' := by rw [hg] at hg'; exact Option.some.inj hg'
      obtain ⟨_, _, ⟨_, h8, _⟩ | ⟨b, cur, f, h7, _⟩⟩ := hro
      · exact absurd h8 hx
      · exact ⟨b, h7, by rw [h7]; rfl⟩
  | sw id i n =>
    obtain ⟨_, bi, A, c, hg, rfl, h3, h4, h5⟩ := hx
    obtain ⟨ty, e, xs, ys, m, hl, hm, hv, rfl⟩ := h
    refine view id i n ty e xs ys m bi A c hg hl hv h3 h4 (fun hx => ?_)
    rcases h5 with h5 | h5
    · exact .inl ⟨h5, hm h5⟩
    · exact .inr h5
  | ptr id o =>
    obtain ⟨_, bi, b, hg, hb, rfl⟩ := hx
    obtain ⟨j, hj, rfl⟩ := h
    obtain ⟨_, hn⟩ := posn_nth hj
    exact ⟨rfl, bi, b, hgc j id bi (by simpa using hn) hg, hb, rfl⟩
  | rp t xs =>
    simp only [BorH] at h
    subst h
    obtain ⟨h1, b, o, h2, h3, h4⟩ := hx
    exact ⟨h1, b, o, h2, hi t b h3, RL_mono (fun t b hb => ⟨hi t b hb, rfl⟩) xs b o [] rfl (fun _ h => by cases h) h4⟩
theorem BorHs_RHs : ∀ (xs ys : List HV) (vs : List Value), BorHs rest ps T xs ys → RHs g im w xs vs [] → RHs gc imc w ys vs []
  | [], [], vs, _, h => h
  | x :: xs, y :: ys, vs, hb, h => by
    obtain ⟨v, vs', f1, f2, rfl, hf, h1, h2⟩ := h
    obtain ⟨rfl, rfl⟩ := List.append_eq_nil_iff.1 hf.symm
    exact ⟨v, vs', [], [], rfl, rfl, BorH_RH hgc hi hr hT x y v hb.1 h1, BorHs_RHs xs ys vs' hb.2 h2⟩
  | [], _ :: _, _, hb, _ => hb.elim
  | _ :: _, [], _, hb, _ => hb.elim
theorem BorA_RA (x y : AV) (v : Value) (hb : BorA rest ps T x y) (h : RA g im w x v []) : RA gc imc w y v [] := by
  cases x <;> cases y <;> simp only [BorA] at hb
  · simp only [RA] at h ⊢; exact BorH_RH hgc hi hr hT _ _ v hb h
  · simp only [RA] at h ⊢
    obtain ⟨cs, h1, h2⟩ := h
    exact ⟨cs, h1, BorHs_RHs hgc hi hr hT _ _ cs hb h2⟩
theorem BorAs_RAs : ∀ (xs ys : List AV) (vs : List Value), BorAs rest ps T xs ys → RAs g im w xs vs [] → RAs gc imc w ys vs []
  | [], [], vs, _, h => by simpa only [RAs] using h
  | x :: xs, y :: ys, vs, hb, h => by
    simp only [RAs] at h ⊢
    obtain ⟨v, vs', f1, f2, rfl, hf, h1, h2⟩ := h
    obtain ⟨rfl, rfl⟩ := List.append_eq_nil_iff.1 hf.symm
    exact ⟨v, vs', [], [], rfl, rfl, BorA_RA hgc hi hr hT x y v hb.1 h1, BorAs_RAs xs ys vs' hb.2 h2⟩
  | [], _ :: _, _, hb, _ => hb.elim
  | _ :: _, [], _, hb, _ => hb.elim
end
/-! ### the call -/
def pick : List Nat → List (Nat × Ob) → Option (List Ob × List (Nat × Ob))
  | [], hp => some ([], hp)
  | i :: is, hp => match look i hp with
    | some o => match pick is (del i hp) with
      | some (os, r) => some (o :: os, r)
      | none => none
    | none => none
def HV.pu : HV → Bool
  | .c _ => true
  | _ => false
def Ob.pu : Ob → Bool
  | .arr .. => true
  | .box _ xs => xs.all HV.pu
  | .hrr _ _ xs => xs.all HV.pu
/-- A box without anything that is owned. -/
def Ob.bx : Ob → Bool
  | .arr _ _ xs => (xs.map HV.c).all HV.free
  | .box _ xs => xs.all HV.free
  | .hrr .. => false
theorem RHs_pu {g g' : Ga} {im : Im} {w : World} : ∀ (xs : List HV) (vs : List Value) (f : List Nat), xs.all HV.pu = true → RHs g im w xs vs f → RHs g' im w xs vs f
  | [], vs, f, _, h => h
  | x :: xs, vs, f, hp, h => by
    simp only [List.all_cons, Bool.and_eq_true] at hp
    obtain ⟨v, vs', f1, f2, rfl, rfl, h1, h2⟩ := h
    refine ⟨v, vs', f1, f2, rfl, rfl, ?_, RHs_pu xs vs' f2 hp.2 h2⟩
    cases x <;> first | exact h1 | exact absurd hp.1 (by simp [HV.pu])
theorem RO_pu {g g' : Ga} {im : Im} {w : World} {bi : BI} {o : Ob} {f : List Nat} (hp : o.pu = true) (h : RO g im w bi o f) : RO g' im w bi o f := by
  cases o with
  | arr ty e xs => exact h
  | box ty xs =>
    obtain ⟨b, cs, f', h4, rfl, h6, h8⟩ := h
    exact ⟨b, cs, f', h4, rfl, h6, RHs_pu xs cs f' hp h8⟩
  | hrr ty e xs =>
    obtain ⟨h1, h2, h3 | ⟨b, cur, f', us, h4, rfl, h6, h7, h8, h9⟩⟩ := h
    · exact ⟨h1, h2, .inl h3⟩
    · exact ⟨h1, h2, .inr ⟨b, cur, f', us, h4, rfl, h6, h7, RHs_pu xs us f' hp h8, h9⟩⟩
theorem RHs_free_fp {g : Ga} {im : Im} {w : World} : ∀ (xs : List HV) (vs : List Value) (f : List Nat), RHs g im w xs vs f → xs.all HV.free = true → f = []
  | [], vs, f, h, _ => h.2
  | x :: xs, vs, f, h, hf => by
    obtain ⟨v, vs', f1, f2, rfl, rfl, h1, h2⟩ := h
    simp only [List.all_cons, Bool.and_eq_true] at hf
    rw [RHs_free_fp xs vs' f2 h2 hf.2, List.append_nil]
    cases x with
    | c x => cases x <;> simp_all [RH, R, HV.free]
    | _ => exact h1.1
theorem pick_HR {g gc : Ga} {im : Im} {w : World} : ∀ (ps : List Nat) (k : Nat) (hp : List (Nat × Ob)) (fps : List Nat) (hin : List Ob) (rest : List (Nat × Ob)), pick ps hp = some (hin, rest) → HR g im w hp fps → fps.Nodup → hin.all Ob.pu = true →
    (∀ j id bi, nth ps j = some id → g id = some bi → gc (k + j) = some bi) →
    hin.length = ps.length ∧ ∃ fa fb, HR gc im w (num k hin) fa ∧ HR g im w rest fb ∧ (fa ++ fb).Nodup ∧ (∀ b ∈ fa ++ fb, b ∈ fps) ∧ (hin.all Ob.bx = true → ∀ b ∈ fa, ∃ id ∈ ps, ∃ bi, g id = some bi ∧ bi.a = some b)
  | [], k, hp, fps, hin, rest, h, hr, hn, _, _ => by
    simp only [pick, Option.some.injEq, Prod.mk.injEq] at h
    obtain ⟨rfl, rfl⟩ := h
    exact ⟨rfl, [], fps, rfl, hr, by simpa using hn, by simp, by simp⟩
  | i :: is, k, hp, fps, hin, rest, h, hr, hn, hpu, hgc => by
    simp only [pick] at h
    split at h
    · rename_i o ho
      split at h
      · rename_i os r hp'
        simp only [Option.some.injEq, Prod.mk.injEq] at h
        obtain ⟨rfl, rfl⟩ := h
        simp only [List.all_cons, Bool.and_eq_true] at hpu
        obtain ⟨bi, f1, f2, f3, hg, rfl, hro, hd⟩ := HR_del hr ho
        have hn' : (f1 ++ f3).Nodup := hn.sublist (List.Sublist.append (List.Sublist.refl _) (List.sublist_append_right _ _))
        obtain ⟨hl, fa, fb, h1, h2, h3, h4, h5⟩ := pick_HR is (k + 1) _ _ _ _ hp' hd hn' hpu.2 (fun j id bi h1 h2 => by have := hgc (j + 1) id bi h1 h2; rwa [show k + (j + 1) = k + 1 + j by omega] at this)
        refine ⟨by simp [hl], f2 ++ fa, fb, ⟨bi, f2, fa, hgc 0 i bi rfl hg, rfl, RO_pu hpu.1 hro, h1⟩, h2, ?_, ?_, ?_⟩
        · rw [List.append_assoc]
          rw [List.nodup_append] at hn ⊢
          obtain ⟨n1, n2, n3⟩ := hn
          rw [List.nodup_append] at n2
          refine ⟨n2.1, h3, fun a ha b hb => ?_⟩
          rcases List.mem_append.1 (h4 b hb) with hb1 | hb3
          · exact (n3 b hb1 a (List.mem_append_left _ ha)).symm
          · exact n2.2.2 a ha b hb3
        · intro b hb
          rw [List.append_assoc] at hb
          rcases List.mem_append.1 hb with hb | hb
          · exact List.mem_append_right _ (List.mem_append_left _ hb)
          · rcases List.mem_append.1 (h4 b hb) with hb | hb
            · exact List.mem_append_left _ hb
            · exact List.mem_append_right _ (List.mem_append_right _ hb)
        · intro hbx b hb
          simp only [List.all_cons, Bool.and_eq_true] at hbx
          rcases List.mem_append.1 hb with hb | hb
          · refine ⟨i, List.mem_cons_self, bi, hg, ?_⟩
            cases o with
            | arr ty e xs =>
              obtain ⟨q1, q2, ⟨q3, q4, q5, q6⟩ | ⟨b', cur, f', h4, rfl, h6, h7, h8⟩⟩ := hro
              · rw [q6] at hb; cases hb
              · obtain ⟨us, hus, _⟩ := RL_RHs (g := g) _ _ _ h8
                rw [RHs_free_fp _ us f' hus hbx.1] at hb
                simp at hb
                rw [hb, h4]
            | hrr => simp [Ob.bx] at hbx
            | box ty xs =>
              obtain ⟨b', cs, f', h4, rfl, h6, h8⟩ := hro
              rw [RHs_free_fp xs cs f' h8 hbx.1] at hb
              simp at hb
              rw [hb, h4]
          · obtain ⟨id, h6, h7⟩ := h5 hbx.2 b hb
            exact ⟨id, List.mem_cons_of_mem _ h6, h7⟩
      · cases h
    · cases h

def AS.evals (s : AS) : List Operand → Option (List AV)
  | [] => some []
  | x :: xs => match s.eval x, s.evals xs with
    | some y, some ys => some (y :: ys)
    | _, _ => none
theorem evals_RAs {E : Env} {g : Ga} {im : Im} {fps : List Nat} {s : AS} {a : Act} {w : World} (h : SimF E g im fps s a w) : ∀ {as : List Operand} {xs : List AV}, s.evals as = some xs → RAs g im w xs (as.map a.eval) []
  | [], xs, hx => by simp only [AS.evals, Option.some.injEq] at hx; subst hx; simp [RAs]
  | o :: os, xs, hx => by
    simp only [AS.evals] at hx
    split at hx
    · rename_i y ys hy hys
      injection hx with hx; subst hx
      simp only [RAs]
      exact ⟨_, _, [], [], rfl, rfl, h.eval hy, evals_RAs h hys⟩
    · cases hx
/-- The caller's name of the callee's object j. -/
def rho (ps : List Nat) (nx : Nat) (j : Nat) : Nat := match nth ps j with | some id => id | none => nx + (j - ps.length)
def AS.after (s : AS) (ps : List Nat) (rest : List (Nat × Ob)) (hout : List Ob) : AS := { fr := s.fr, hp := named (rho ps s.nx) 0 hout ++ rest, nx := s.nx + (hout.length - ps.length) }
/-- The operation is a call of a Go function with these operands. -/
def callOf (s : AS) : Op → Option (FuncId × List Operand)
  | .call c => match c.callee with
    | .value x => match s.eval x with
      | some (.h (.c (.fn f))) => some (f, c.args.toList)
      | _ => none
    | _ => none
  | _ => none
theorem nth_lt {α : Type} : ∀ {l : List α} {k : Nat} {x : α}, nth l k = some x → k < l.length
  | [], k, x, h => by simp [nth] at h
  | y :: l, 0, x, h => by simp
  | y :: l, k + 1, x, h => by have := nth_lt (l := l) (k := k) h; simp; omega
theorem callFunc_ok {P : Program} {f : FuncId} (h : FnOk P f) (args : Array Value) (w : World) : (callFunc f args).run P w = .ok (.enter f args) w := by
  obtain ⟨fn, h1, h2, h3⟩ := h
  simp only [callFunc, Sem.run_bind, run_program, Result.andThen_ok, h1]
  rw [if_neg (by rw [h2]; simp), if_neg (by rw [h3]; simp)]
  rfl
theorem es_call {E : Env} {s : AS} {o : Oper} {f : FuncId} {as : List Operand} {xs ys : List AV} {ps : List Nat} {hin : List Ob} {rest : List (Nat × Ob)} {T : Nat} {rt : List Nat} {Post : AV → List Ob → Prop} {Q : AS → Prop}
    (hop : callOf s o.op = some (f, as)) (hev : s.evals as = some xs) (hpk : pick ps s.hp = some (hin, rest)) (hpu : hin.all Ob.pu = true) (hb : BorAs rest ps T xs ys)
    (hc : AC E.P f ys hin rt Post) (hT : T ∉ rt) (hd : dok E.nt o.dst = true)
    (hQ : ∀ r hout, Post r hout → Q ((s.after ps rest hout).putd o.dst (r.ren (rho ps s.nx)))) : ES E s o (if hin.all Ob.bx then some ps else none) Q := by
  intro g im a w K QQ ⟨fps, hs⟩ hK
  obtain ⟨hfn, hcall⟩ := hc
  -- the operation's run
  have hrun : (execOp a.eval o).run E.P w = .ok (.enter f (as.map a.eval).toArray) w := by
    unfold callOf at hop
    split at hop
    · rename_i c ho
      split at hop
      · rename_i x hx
        split at hop
        · rename_i f' hf
          simp only [Option.some.injEq, Prod.mk.injEq] at hop
          obtain ⟨rfl, rfl⟩ := hop
          have e := hs.eval hf
          simp only [RA, RH, R] at e
          simp only [execOp, ho, resolve, hx, e.1, Deferred.ofValue, Sem.run_bind, Sem.run_pure, Result.andThen_ok, invoke]
          rw [callFunc_ok hfn]
          have : (#[] ++ c.args.map a.eval ++ #[] : Array Value) = (c.args.toList.map a.eval).toArray := Array.ext' (by simp)
          rw [this]
        · cases hop
      · cases hop
    · cases hop
  -- what the callee sees
  let gc : Ga := fun j => match nth ps j with | some id => g id | none => none
  have hgc : ∀ j id bi, nth ps j = some id → g id = some bi → gc j = some bi := fun j id bi h1 h2 => by simp only [gc, h1, h2]
  obtain ⟨hlen, fa, fb, hha, hhb, hnd, hsub, hbx⟩ := pick_HR (gc := gc) ps 0 s.hp fps hin rest hpk hs.hp hs.nd hpu (fun j id bi h1 h2 => by rw [Nat.zero_add]; exact hgc j id bi h1 h2)
  let imc : Im := fun t b => im t b ∨ (t = T ∧ b ∈ fb)
  have hi : ∀ t b, im t b → imc t b := fun t b h => .inl h
  have hfa : ∀ b ∈ fa, b ∈ fps := fun b hb => hsub b (List.mem_append_left _ hb)
  have hfb : ∀ b ∈ fb, b ∈ fps := fun b hb => hsub b (List.mem_append_right _ hb)
  rw [List.nodup_append] at hnd
  obtain ⟨hna, hnb, hdis⟩ := hnd
  have hargs := BorAs_RAs hgc hi hhb (fun b hb => .inr ⟨rfl, hb⟩) xs ys _ hb (evals_RAs hs hev)
  have hha' : HR gc imc w (num 0 hin) fa := HR_mono (fun _ _ h => h) (fun t b h => ⟨hi t b h, rfl⟩) _ _ (fun _ _ => rfl) hha
  have him : ∀ t b, imc t b → b < w.heap.size := fun t b h => h.elim (hs.il t b) fun h => hs.lt b (hfb b h.2)
  have hni : ∀ b ∈ fa, ∀ t, ¬ imc t b := fun b hb t h => h.elim (hs.ni b (hfa b hb) t) fun h => hdis b hb b h.2 rfl
  unfold Oper.wp
  rw [hrun]
  refine (hcall w gc imc _ fa hargs hha' hna (fun b hb => ⟨hs.lt b (hfa b hb), hni b hb⟩) him ?_ ?_).mono ?_
  · intro i hi
    simp only [gc]
    cases hn : nth ps i with
    | none => rfl
    | some id => have := nth_lt hn; omega
  · intro i bi b h1 h2
    simp only [gc] at h1
    split at h1
    · exact hs.gl _ bi b h1 h2
    · cases h1
  · rintro e w' ⟨r, hout, v, g', im', fps', hpost, rfl, hbk⟩
    -- the caller's state behind the call
    let g2 : Ga := fun i => if i < s.nx then g i else g' (i - s.nx + ps.length)
    let im2 : Im := fun t b => if t = T then im T b else im' t b
    have hlen' : ps.length ≤ hout.length := by rw [← hlen]; exact hbk.len
    have hg2 : ∀ i bi, g i = some bi → g2 i = some bi := fun i bi h => by
      have hlt : i < s.nx := by
        rcases Nat.lt_or_ge i s.nx with h' | h'
        · exact h'
        · rw [hs.gn i h'] at h; cases h
      simp only [g2, if_pos hlt]; exact h
    have hgr : ∀ j bi, g' j = some bi → g2 (rho ps s.nx j) = some bi := by
      intro j bi h
      unfold rho
      cases hn : nth ps j with
      | some id =>
        have hj := nth_lt hn
        rw [hbk.gx j (by omega)] at h
        simp only [gc, hn] at h
        exact hg2 id bi h
      | none =>
        have hj : ps.length ≤ j := by
          rcases Nat.lt_or_ge j ps.length with h' | h'
          · rw [nth_eq, List.getElem?_eq_getElem h'] at hn; cases hn
          · exact h'
        simp only [g2]
        rw [if_neg (by omega)]
        rw [show s.nx + (j - ps.length) - s.nx + ps.length = j by omega]
        exact h
    have hk : ∀ b, b < w.heap.size → b ∉ fa → w'.heap[b]? = w.heap[b]? := fun b h1 h2 => hbk.kp.block b h1 h2
    have himm : ∀ t b, im t b → im2 t b := fun t b h => by
      simp only [im2]; split
      · rename_i h'; rw [← h']; exact h
      · exact hbk.imm t b (hi t b h)
    have hsame : ∀ t b, im t b → im2 t b ∧ w'.heap[b]? = w.heap[b]? := fun t b h => ⟨himm t b h, hk b (hs.il t b h) fun hb => hs.ni b (hfa b hb) t h⟩
    have himn : ∀ t b, im2 t b → im t b ∨ (t = 0 ∧ w.heap.size ≤ b) := fun t b h => by
      simp only [im2] at h
      split at h
      · rename_i h'; rw [h']; exact .inl h
      · rename_i h'
        rcases hbk.imn t b h with (h | h) | h
        · exact .inl h
        · exact absurd h.1 h'
        · exact .inr h
    have hrt : ∀ t b, imr rt im' t b → im2 t b := fun t b h => by
      simp only [im2]
      rw [if_neg (fun e => hT (by rw [← e]; exact h.1))]
      exact h.2
    have hrest : HR g2 im2 w' rest fb := HR_mono hg2 hsame rest fb (fun b hb => hk b (hs.lt b (hfb b hb)) fun h => hdis b h b hb rfl) hhb
    have hcame : HR g2 im2 w' (named (rho ps s.nx) 0 hout) fps' := HR_named hgr hrt 0 hout fps' hbk.hp
    have hni2 : ∀ b, (∀ t, ¬ im t b) → b < w.heap.size → ∀ t, ¬ im2 t b := fun b h1 h2 t h => by
      rcases himn t b h with h | h
      · exact h1 t h
      · have := h.2; omega
    have hsim : SimF E g2 im2 (fps' ++ fb) ((s.after ps rest hout).putd o.dst (r.ren (rho ps s.nx))) (a.put o.dst v) w' := by
      refine SimF.putd (s := s.after ps rest hout) ?_ (dok_lt hd) (RA_map hgr hrt r v [] hbk.res)
      refine ⟨hs.dfr, hs.sz, ?_, ?_, ?_, ?_, ?_, ?_, ?_, ?_, ?_, ?_, ?_, ?_, ?_, ?_⟩
      · intro t x hx
        exact RA_mono hg2 hsame x _ [] (fun _ h => by cases h) (hs.fr t x hx)
      · exact (HR_append _ _ _).2 ⟨fps', fb, rfl, hcame, hrest⟩
      · rw [List.nodup_append]
        refine ⟨hbk.nd, hnb, fun x hx y hy => ?_⟩
        rintro rfl
        rcases (hbk.fp x hx).2.2 with h | h
        · have := hs.lt x (hfb x hy); omega
        · exact hdis x h x hy rfl
      · intro b hb
        rcases List.mem_append.1 hb with hb | hb
        · exact (hbk.fp b hb).1
        · exact Nat.lt_of_lt_of_le (hs.lt b (hfb b hb)) hbk.kp.size
      · intro b hb t h
        rcases List.mem_append.1 hb with hb | hb
        · simp only [im2] at h
          split at h
          · rename_i h'
            rcases (hbk.fp b hb).2.2 with h2 | h2
            · have := hs.il T b h; omega
            · exact hs.ni b (hfa b h2) T h
          · exact (hbk.fp b hb).2.1 t h
        · exact hni2 b (hs.ni b (hfb b hb)) (hs.lt b (hfb b hb)) t h
      · intro b hb
        rcases List.mem_append.1 hb with hb | hb
        · rcases (hbk.fp b hb).2.2 with h | h
          · exact .inl (Nat.le_trans hs.kp.size h)
          · exact hs.mine b (hfa b h)
        · exact hs.mine b (hfb b hb)
      · intro i hi
        simp only [AS.after] at hi
        simp only [g2]
        rw [if_neg (by omega)]
        exact hbk.gn _ (by omega)
      · intro i bi b h1 h2
        simp only [g2] at h1
        split at h1
        · exact Nat.lt_of_lt_of_le (hs.gl i bi b h1 h2) hbk.kp.size
        · exact hbk.gl _ bi b h1 h2
      · intro t b h
        rcases himn t b h with h' | h'
        · exact Nat.lt_of_lt_of_le (hs.il t b h') hbk.kp.size
        · simp only [im2] at h
          split at h
          · exact Nat.lt_of_lt_of_le (hs.il T b h) hbk.kp.size
          · exact hbk.iml t b h
      · exact hs.kp.trans_same hbk.kp.os hbk.kp.tape hbk.kp.output hbk.kp.size fun b hb => by
          by_cases h : b ∈ fa
          · exact .inl (hs.mine b (hfa b h))
          · exact .inr (hk b hb h)
      · show E.k ≤ s.nx + _
        have := hs.kn; omega
      · intro i hi
        have := hs.kn
        simp only [g2]
        rw [if_pos (by omega)]
        exact hs.g0 i hi
      · exact fun t b h => himm t b (hs.i0 t b h)
      · intro t b ht h
        rcases himn t b h with h | h
        · exact hs.i1 t b ht h
        · exact .inr ⟨h.1, Nat.le_trans hs.kp.size h.2⟩
    refine hK g2 im2 _ _ w' (· ∈ fa) ⟨_, hsim⟩ (hQ r hout hpost) ⟨?_, ?_, himm, himn, hbk.kp.size, fun b hb t h => hs.ni b (hfa b hb) t h, fun b hb => ?_⟩ ?_
    · intro i hi
      simp only [g2, if_pos hi]
    · intro i bi b hi h1 h2
      simp only [g2] at h1
      rw [if_neg (by omega)] at h1
      exact hbk.gf _ bi b (by omega) h1 h2
    · by_cases h : b ∈ fa
      · exact .inl h
      · exact .inr (hk b hb h)
    · intro m hm b hb
      split at hm
      · rename_i hx
        injection hm with hm
        subst hm
        exact hbx hx b hb
      · cases hm
end Go.Proofs.Ytjijkdhjfanpaaa
