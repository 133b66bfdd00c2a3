/- The engine, part y: a drawn region in which an operation reads an object that a later operation, which hangs on it, writes: the relation of steps goes by operation. -/
import Derived.Test.YtjijkdhjfanpaaaEx
namespace Go.Proofs.Ytjijkdhjfanpaaa
open Go.RowKit
section
variable {P : Program} {ops : Array Oper} {Q : Exit → Act → World → Prop} {md : Region.Mode} {T : Nat → World → World → Prop} {T0 : World → World → Prop}
def wpAnyU (P : Program) (md : Region.Mode) (ops : Array Oper) (Q : Exit → Act → World → Prop) (T : Nat → World → World → Prop) : Nat → Array Bool → Act → World → Prop
  | 0, listed, a, w => Region.ready md ops listed = [] ∧ Q .normal a w
  | fuel + 1, listed, a, w =>
    (Region.ready md ops listed = [] → Q .normal a w) ∧
    ∀ i ∈ Region.ready md ops listed, wpOp P ops Q i (fun a' w' => T i w w' ∧ wpAnyU P md ops Q T fuel (listed.setIfInBounds i true) a' w') a w
theorem wpAny_of_U : ∀ (fuel : Nat) (listed : Array Bool) (a : Act) (w : World), wpAnyU P md ops Q T fuel listed a w → wpAny P md ops Q fuel listed a w
  | 0, _, _, _, h => h
  | fuel + 1, _, _, _, h => ⟨h.1, fun i hi => wpOp_mono (fun a' w' h' => wpAny_of_U fuel _ a' w' h'.2) (h.2 i hi)⟩
/-- Each of D but i waits for another of D. -/
def depOk (md : Region.Mode) (ops : Array Oper) (D : List Nat) (i : Nat) : Bool :=
  D.all fun d => d == i || match ops[d]? with | some o => o.after.any (fun e => Region.binds md e && D.contains e.on) | none => false
theorem wpAnyU_first {i : Nat} {oi : Oper} {v : Value} {D : List Nat} (hTr : ∀ j w, T j w w) (h0r : ∀ w, T0 w w) (h0t : ∀ a b c, T0 a b → T0 b c → T0 a c) (hi : ops[i]? = some oi) (hsel : ∀ (j : Nat) (o : Oper) cs b, ops[j]? = some o → o.op ≠ .select cs b)
    (hQ : ∀ c a w, Q (.panic c) (a.put oi.dst v) w → Q (.panic c) a w) (hD : depOk md ops D i = true) (hT : ∀ j, j ∉ D → ∀ w w', T j w w' → T0 w w') :
    ∀ (fuel : Nat) (listed : Array Bool) (a : Act) (w : World),
      (∀ j oj, ops[j]? = some oj → j ≠ i → listed.getD j true = false → (∀ e ∈ oj.after, Region.binds md e = true → e.on ≠ i) → oi.apart ops oj = true) →
      i ∈ Region.ready md ops listed → (∀ d ∈ D, d ≠ i → listed.getD d true = false) → YT P ops T0 oi v a w →
      wpAnyU P md ops Q T fuel (listed.setIfInBounds i true) (a.put oi.dst v) w → wpAnyU P md ops Q T (fuel + 1) listed a w := by
  intro fuel
  induction fuel with
  | zero =>
    intro listed a w _ hr _ hy H
    refine ⟨fun h => (by rw [h] at hr; cases hr), fun j hj => ?_⟩
    by_cases hji : j = i
    · subst hji; exact hy.wpOp h0r hi ⟨hTr _ w, H⟩
    · have := ready_mono hj hji
      rw [H.1] at this
      cases this
  | succ fuel ih =>
    intro listed a w hfree hr hun hy H
    refine ⟨fun h => (by rw [h] at hr; cases hr), fun j hj => ?_⟩
    by_cases hji : j = i
    · subst hji; exact hy.wpOp h0r hi ⟨hTr _ w, H⟩
    · have h1 := H.2 j (ready_mono hj hji)
      obtain ⟨hjun, oj, hoj, hall⟩ := mem_ready.1 hj
      have hnot : ∀ e ∈ oj.after, Region.binds md e = true → e.on ≠ i := fun e he hb heq => by
        have h1 := hall e he hb
        have h0 := (mem_ready.1 hr).1
        rw [heq] at h1
        rcases Nat.lt_or_ge i listed.size with h' | h'
        · simp [h'] at h0 h1; rw [h0] at h1; cases h1
        · simp [Array.getElem?_eq_none h'] at h1
      have hjD : j ∉ D := by
        intro hjD
        have := List.all_eq_true.1 hD j hjD
        simp only [Bool.or_eq_true, beq_iff_eq, hji, false_or, hoj] at this
        obtain ⟨e, he, hb⟩ := Array.any_eq_true'.1 this
        simp only [Bool.and_eq_true] at hb
        have h3 := hall e he hb.1
        have h4 := hun e.on (by simpa using hb.2) (hnot e he hb.1)
        rcases Nat.lt_or_ge e.on listed.size with h' | h'
        · simp [h'] at h3 h4; rw [h4] at h3; cases h3
        · simp [Array.getElem?_eq_none h'] at h3
      have h2 := wpOp_putT hoj (hfree j oj hoj hji hjun hnot) (fun cs b => hsel i oi cs b hi) (fun cs b => hsel j oj cs b hoj) hQ hy h1
      have hfree' : ∀ k ok, ops[k]? = some ok → k ≠ i → (listed.setIfInBounds j true).getD k true = false →
          (∀ e ∈ ok.after, Region.binds md e = true → e.on ≠ i) → oi.apart ops ok = true := fun k ok hk hki hun hno => by
        refine hfree k ok hk hki ?_ hno
        by_cases hjk : j = k
        · subst hjk; exact hjun
        · rw [getD_set_ne true hjk] at hun; exact hun
      refine wpOp_mono (fun a' w' h3 => ⟨h3.2.1, ih (listed.setIfInBounds j true) a' w' hfree' (ready_mono hr (Ne.symm hji)) (fun d hd hdi => by
        have hjd : j ≠ d := by rintro rfl; exact hjD hd
        rw [getD_set_ne true hjd]; exact hun d hd hdi) (h3.1.step h0t (hT j hjD _ _ h3.2.1)) ?_⟩) h2
      rw [Array.setIfInBounds_comm _ _ hji]
      exact h3.2.2
theorem cert_unlisted {ops : Array Oper} : ∀ (cert : List (Nat × Bool)) (listed : Array Bool), certOk ops cert listed = true → ∀ p ∈ cert, listed.getD p.1 true = false
  | [], _, _, p, hp => by cases hp
  | (i, b) :: r, listed, h, p, hp => by
    have hr : i ∈ Region.ready .any ops listed ∧ certOk ops r (listed.setIfInBounds i true) = true := by
      cases b <;> simp only [certOk, Bool.and_eq_true, beq_iff_eq] at h
      · exact ⟨by rw [h.1]; simp, h.2⟩
      · exact ⟨by simpa using h.1.1, h.2⟩
    rcases List.mem_cons.1 hp with rfl | hp
    · exact (mem_ready.1 hr.1).1
    · have := cert_unlisted r _ hr.2 p hp
      by_cases hip : i = p.1
      · subst hip; exact (mem_ready.1 hr.1).1
      · rw [getD_set_ne true hip] at this; exact this
end
theorem aj_step {E : Env} {g g' : Ga} {im im' : Im} {fps : List Nat} {s : AS} {a : Act} {w w' : World} {M F : Nat → Prop} {n0 nr : Nat} {os ms m : List Nat} {fl : Bool} (_hs : SimF E g im fps s a w) (hJ : AJ g im w M n0 nr os ms fl) (hnr : nr ≤ s.nx)
    (hm : m.all (fun id => ms.contains id || Nat.ble nr id) = true) (hch : Chg g g' im im' w w' s.nx F) (hof : Of g m F) : TrM M n0 w w' ∧ AJ g' im' w' M n0 nr os ms false := by
  have hF : ∀ b, F b → b < n0 → M b := by
    intro b hb hlt
    obtain ⟨id, hid, bi, h1, h2⟩ := hof b hb
    have := List.all_eq_true.1 hm id hid
    simp only [Bool.or_eq_true] at this
    by_cases hidn : id < nr
    · rcases this with h3 | h3
      · rcases hJ.mds id bi b (by simpa using h3) hidn h1 h2 with h4 | ⟨t, h4⟩
        · exact h4
        · exact absurd h4 (hch.fi b hb t)
      · have := Nat.le_of_ble_eq_true h3; omega
    · rcases hJ.new id bi b (by omega) h1 h2 with h4 | h4
      · omega
      · exact h4
  have hT : TrM M n0 w w' := by
    intro b hb hMb
    have := hJ.sz
    rcases hch.ch b (by omega) with h1 | h1
    · exact absurd (hF b h1 hb) hMb
    · exact h1
  refine ⟨hT, ?_⟩
  have hsz := hJ.sz
  have hgold : ∀ i bi, i < nr → g' i = some bi → g i = some bi := fun i bi h1 h2 => by rw [← hch.gx i (by omega)]; exact h2
  refine ⟨⟨?_, ?_, ?_⟩, hJ.on, Nat.le_trans hJ.sz hch.sz, hJ.mn, ?_, ?_⟩
  · intro t b h1 h2
    rcases hch.imn t b h1 with h3 | ⟨_, h3⟩
    · exact hJ.ai.imM t b h3 h2
    · have := hJ.mn b h2; omega
  · intro t b h1 h2
    rcases h1 with h1 | h1
    · cases h1
    · rcases hch.imn t b h2 with h3 | ⟨h3, _⟩
      · exact hJ.ai.imo t b (.inr h1) h3
      · exact absurd h3 h1
  · intro id h1 bi b h3 h4
    exact hJ.ai.old id h1 bi b (hgold id bi (hJ.on id (by simpa [okid] using h1)) h3) h4
  · intro i bi b h1 h2 h3
    by_cases hin : i < s.nx
    · exact hJ.new i bi b h1 (by rw [← hch.gx i hin]; exact h2) h3
    · rcases hch.gn i bi b (by omega) h2 h3 with h4 | h4
      · left; omega
      · by_cases hlt : b < n0
        · exact .inr (hF b h4 hlt)
        · left; omega
  · intro i bi b h1 h2 h3 h4
    rcases hJ.mds i bi b h1 h2 (hgold i bi h2 h3) h4 with h5 | ⟨t, h5⟩
    · exact .inl h5
    · exact .inr ⟨t, hch.imm t b h5⟩
theorem aj_start {E : Env} {g : Ga} {im : Im} {fps : List Nat} {s : AS} {a : Act} {w1 : World} (hs1 : SimF E g im fps s a w1) (ms : List Nat) (hms : ms.all (fun i => (look i s.hp).isSome) = true) :
    AJ g im w1 (fun b => (∃ id ∈ ms, ∃ bi, g id = some bi ∧ bi.a = some b) ∧ ∀ t, ¬ im t b) w1.heap.size s.nx (osOf s ms) ms true := by
  refine ⟨⟨fun t b h1 h2 => h2.2 t h1, fun t b _ => hs1.il t b, fun id h1 bi b h3 h4 => ⟨hs1.gl id bi b h3 h4, ?_⟩⟩, ?_, Nat.le_refl _, ?_, ?_, ?_⟩
  · rintro ⟨⟨id', h5, bi', h6, h7⟩, h8⟩
    have hid : id ∈ osOf s ms := by simpa [okid] using h1
    simp only [osOf, List.mem_filter, Bool.and_eq_true, Bool.not_eq_true'] at hid
    obtain ⟨hid1, hid2, _⟩ := hid
    have hne : id ≠ id' := by
      rintro rfl
      have : ms.contains id = true := by simpa using h5
      rw [this] at hid2
      cases hid2
    obtain ⟨oj, hoj⟩ := Option.isSome_iff_exists.1 (List.all_eq_true.1 hms id' h5)
    have : ∃ oi, look id s.hp = some oi := by
      clear hms
      revert hid1
      generalize s.hp = hp
      intro hid1
      induction hp with
      | nil => simp at hid1
      | cons p r ih =>
        obtain ⟨q, x⟩ := p
        by_cases hq : id = q
        · subst hq; exact ⟨x, look_cons_eq _ _ _⟩
        · rw [look_cons_ne hq]
          simp only [List.map_cons, List.mem_cons] at hid1
          exact ih (hid1.resolve_left hq)
    obtain ⟨oi, hoi⟩ := this
    exact HR_apart _ _ hs1.hp hs1.nd id id' oi oj bi bi' b hoi hoj hne h3 h6 h4 h7
  · intro i hi
    simp only [osOf, List.mem_filter, Bool.and_eq_true] at hi
    exact Nat.lt_of_succ_le (Nat.le_of_ble_eq_true hi.2.2)
  · rintro b ⟨⟨id', h5, bi', h6, h7⟩, _⟩
    exact hs1.gl id' bi' b h6 h7
  · intro i bi b h1 h2 _
    rw [hs1.gn i h1] at h2; cases h2
  · intro i bi b h1 h2 h3 h4
    by_cases hb : ∃ t, im t b
    · exact .inr hb
    · exact .inl ⟨⟨i, h1, bi, h3, h4⟩, fun t ht => hb ⟨t, ht⟩⟩
/-- A region that draws, the steps told by operation. W: the late writers, of ms; the others write ms0; early: no late writer has come yet. -/
def AH2 (E : Env) (l : List Oper) (cert : List (Nat × Bool)) (W : List Nat) (nr : Nat) (os ms os0 ms0 : List Nat) (early fl : Bool) (s : AS) (k : AS → Prop) : Prop :=
  Region.noSelect l.toArray = true → ∀ listed, certOk l.toArray cert listed = true → ∀ g im a w M M0 n0, Sim E g im s a w → AJ g im w M n0 nr os ms fl → (early = true → AJ g im w M0 n0 nr os0 ms0 fl) → (∀ b, M0 b → M b) → nr ≤ s.nx →
    wpAnyU E.P .any l.toArray (Lift E (NQ k)) (fun j => TrM (if W.contains j then M else M0) n0) cert.length listed a w
section
variable {E : Env} {l : List Oper} {cert : List (Nat × Bool)} {W : List Nat} {nr : Nat} {os ms os0 ms0 : List Nat} {early fl : Bool} {s : AS} {k : AS → Prop}
theorem trM_mono {M0 M : Nat → Prop} (h : ∀ b, M0 b → M b) {n0 : Nat} {w w' : World} (ht : TrM M0 n0 w w') : TrM M n0 w w' := fun b h1 h2 => ht b h1 fun h3 => h2 (h b h3)
theorem ah2_nil (h : k s) : AH2 E l [] W nr os ms os0 ms0 early fl s k := by
  intro hsel listed hc g im a w M M0 n0 hs hJ hJ0 hMM hnr
  simp only [certOk, List.isEmpty_iff] at hc
  exact ⟨hc, g, im, s, hs, rfl, h⟩
theorem ah2_ps {i : Nat} {oi : Oper} {x : AV} (hi : nth l i = some oi) (h : PS E (some os) fl s oi.op x) (hg : gdv l s oi = some true) (hd : dok E.nt oi.dst = true) (kk : AH2 E l cert W nr os ms os0 ms0 early fl (s.putd oi.dst x) k) : AH2 E l ((i, true) :: cert) W nr os ms os0 ms0 early fl s k := by
  intro hsel listed hc g im a w M M0 n0 ⟨fps, hs⟩ hJ hJ0 hMM hnr
  simp only [certOk, Bool.and_eq_true] at hc
  obtain ⟨⟨hr, hf⟩, hc'⟩ := hc
  have hi' : l.toArray[i]? = some oi := by rw [List.getElem?_toArray, ← nth_eq]; exact hi
  obtain ⟨v, hv, hrun⟩ := h g im a w M n0 ⟨fps, hs⟩ hJ.ai
  refine wpAnyU_first (D := []) (T0 := TrM M n0) (fun j w => TrM_refl _ n0 w) (TrM_refl M n0) (TrM_trans M n0) hi' (Region.noSelect_spec hsel) (fun c a w h => nq_panic c _ _ w h) rfl ?_ _ listed a w (Region.free_spec hi' hf) (by simpa using hr) (fun d hd => by cases hd) (.inl ⟨wanted_of hs hg, fun w' hw' => hrun w' hw' oi rfl⟩) ?_
  · intro j _ w w' ht
    split at ht
    · exact ht
    · exact trM_mono hMM ht
  · exact kk hsel _ hc' g im _ w M M0 n0 ⟨fps, hs.putd (dok_lt hd) hv⟩ hJ hJ0 hMM (by cases hdd : oi.dst <;> simpa [AS.putd, AS.put] using hnr)
/-- What reads an object that only operations write which wait for it. -/
theorem ah2_psD {i : Nat} {oi : Oper} {x : AV} (D : List Nat) (hi : nth l i = some oi) (h : PS E (some os0) fl s oi.op x) (hg : gdv l s oi = some true) (hd : dok E.nt oi.dst = true) (hD : depOk .any l.toArray D i = true) (hW : W.all (fun j => D.contains j) = true) (hDc : D.all (fun d => d == i || cert.any (fun p => p.1 == d)) = true)
    (kk : AH2 E l cert W nr os ms os0 ms0 true fl (s.putd oi.dst x) k) : AH2 E l ((i, true) :: cert) W nr os ms os0 ms0 true fl s k := by
  intro hsel listed hc0 g im a w M M0 n0 ⟨fps, hs⟩ hJ hJ0 hMM hnr
  have hun := cert_unlisted _ _ hc0
  have hc := hc0
  simp only [certOk, Bool.and_eq_true] at hc
  obtain ⟨⟨hr, hf⟩, hc'⟩ := hc
  have hi' : l.toArray[i]? = some oi := by rw [List.getElem?_toArray, ← nth_eq]; exact hi
  obtain ⟨v, hv, hrun⟩ := h g im a w M0 n0 ⟨fps, hs⟩ (hJ0 rfl).ai
  refine wpAnyU_first (D := D) (T0 := TrM M0 n0) (fun j w => TrM_refl _ n0 w) (TrM_refl M0 n0) (TrM_trans M0 n0) hi' (Region.noSelect_spec hsel) (fun c a w h => nq_panic c _ _ w h) hD ?_ _ listed a w (Region.free_spec hi' hf) (by simpa using hr) ?_ (.inl ⟨wanted_of hs hg, fun w' hw' => hrun w' hw' oi rfl⟩) ?_
  · intro j hj w w' ht
    have : W.contains j = false := by
      cases hWj : W.contains j with
      | false => rfl
      | true => exact absurd (by simpa using List.all_eq_true.1 hW j (by simpa using hWj)) hj
    rw [this] at ht
    exact ht
  · intro d hd hdi
    have := List.all_eq_true.1 hDc d hd
    simp only [Bool.or_eq_true, beq_iff_eq, hdi, false_or] at this
    obtain ⟨p, hp, hpd⟩ := List.any_eq_true.1 this
    have := hun p (List.mem_cons_of_mem _ hp)
    rw [← (by simpa using hpd : p.1 = d)]
    exact this
  · exact kk hsel _ hc' g im _ w M M0 n0 ⟨fps, hs.putd (dok_lt hd) hv⟩ hJ hJ0 hMM (by cases hdd : oi.dst <;> simpa [AS.putd, AS.put] using hnr)
/-- An effect of an early writer. -/
theorem ah2_es {i : Nat} {oi : Oper} {m : List Nat} {Q' : AS → Prop} (hi : nth l i = some oi) (h : ES E s oi (some m) Q') (hg : gdv l s oi = some true) (hW : W.contains i = false) (hm : m.all (fun id => ms.contains id || Nat.ble nr id) = true) (hm0 : m.all (fun id => ms0.contains id || Nat.ble nr id) = true) (hnx : ∀ s', Q' s' → s.nx ≤ s'.nx)
    (kk : ∀ s', Q' s' → AH2 E l cert W nr os ms os0 ms0 true false s' k) : AH2 E l ((i, false) :: cert) W nr os ms os0 ms0 true fl s k := by
  intro hsel listed hc g im a w M M0 n0 ⟨fps, hs⟩ hJ hJ0 hMM hnr
  have hi' : l.toArray[i]? = some oi := by rw [List.getElem?_toArray, ← nth_eq]; exact hi
  simp only [certOk, Bool.and_eq_true, beq_iff_eq] at hc
  obtain ⟨hr, hc'⟩ := hc
  refine ⟨fun h => (by rw [hr] at h; cases h), fun j hj => ?_⟩
  rw [hr] at hj
  simp only [List.mem_singleton] at hj
  subst hj
  unfold wpOp
  simp only [hi']
  rw [if_pos (wanted_of hs hg)]
  refine .inl (h g im a w _ _ ⟨fps, hs⟩ ?_)
  intro g' im' s' a' w' F hs' hq hch hof
  obtain ⟨_, j1⟩ := aj_step hs hJ hnr hm hch (hof m rfl)
  obtain ⟨t0, j0⟩ := aj_step hs (hJ0 rfl) hnr hm0 hch (hof m rfl)
  refine ⟨by rw [hW]; exact t0, kk s' hq hsel _ hc' g' im' a' w' M M0 n0 hs' j1 (fun _ => j0) hMM (Nat.le_trans hnr (hnx s' hq))⟩
/-- .. of a late writer. -/
theorem ah2_late {i : Nat} {oi : Oper} {m : List Nat} {Q' : AS → Prop} (hi : nth l i = some oi) (h : ES E s oi (some m) Q') (hg : gdv l s oi = some true) (hW : W.contains i = true) (hm : m.all (fun id => ms.contains id || Nat.ble nr id) = true) (hnx : ∀ s', Q' s' → s.nx ≤ s'.nx)
    (kk : ∀ s', Q' s' → AH2 E l cert W nr os ms os0 ms0 false false s' k) : AH2 E l ((i, false) :: cert) W nr os ms os0 ms0 early fl s k := by
  intro hsel listed hc g im a w M M0 n0 ⟨fps, hs⟩ hJ hJ0 hMM hnr
  have hi' : l.toArray[i]? = some oi := by rw [List.getElem?_toArray, ← nth_eq]; exact hi
  simp only [certOk, Bool.and_eq_true, beq_iff_eq] at hc
  obtain ⟨hr, hc'⟩ := hc
  refine ⟨fun h => (by rw [hr] at h; cases h), fun j hj => ?_⟩
  rw [hr] at hj
  simp only [List.mem_singleton] at hj
  subst hj
  unfold wpOp
  simp only [hi']
  rw [if_pos (wanted_of hs hg)]
  refine .inl (h g im a w _ _ ⟨fps, hs⟩ ?_)
  intro g' im' s' a' w' F hs' hq hch hof
  obtain ⟨t1, j1⟩ := aj_step hs hJ hnr hm hch (hof m rfl)
  refine ⟨by rw [hW]; exact t1, kk s' hq hsel _ hc' g' im' a' w' M M0 n0 hs' j1 (fun h => by cases h) hMM (Nat.le_trans hnr (hnx s' hq))⟩
end
section
variable {E : Env} {l : List Oper} {Q : Exit → AS → Prop} {s : AS}
theorem awp_draw2 {id : Nat} (cert : List (Nat × Bool)) (W ms ms0 : List Nat) (hm : E.P.follows .mixedOrders = true) (hsel : Region.noSelect l.toArray = true) (hc : certOk l.toArray cert (Array.replicate l.length false) = true) (hl : Nat.beq cert.length l.length = true) (hms : ms.all (fun i => (look i s.hp).isSome) = true) (hms0 : ms0.all (fun i => (look i s.hp).isSome) = true) (hsub : ms0.all (fun i => ms.contains i) = true)
    (h : AH2 E l cert W s.nx (osOf s ms) ms (osOf s ms0) ms0 true true s (fun s' => XT .normal s' Q)) : AWP E (.region id l.toArray true) s Q := by
  intro g im a w ⟨fps, hs⟩
  refine wp_region_any hm ?_
  have hlen := Nat.eq_of_beq_eq_true hl
  let w1 : World := { w with drawn := w.drawn + 1 }
  have hs1 : SimF E g im fps s a w1 := hs.world (fun _ _ => rfl) (Nat.le_refl _) (hs.kp.trans_same rfl rfl rfl (Nat.le_refl _) fun _ _ => .inr rfl)
  have := h hsel _ hc g im a w1 _ _ w1.heap.size ⟨fps, hs1⟩ (aj_start hs1 ms hms) (fun _ => aj_start hs1 ms0 hms0) (fun b ⟨⟨id, h1, h2⟩, h3⟩ => ⟨⟨id, by simpa using List.all_eq_true.1 hsub id h1, h2⟩, h3⟩) (Nat.le_refl _)
  rw [hlen] at this
  have hsz : l.toArray.size = l.length := by simp
  rw [hsz]
  refine wpAny_imp ?_ _ _ _ _ (wpAny_of_U _ _ _ _ this)
  rintro e a' w' ⟨g', im', s', h1, rfl, h3⟩
  exact ⟨g', im', s', h1, h3⟩
end
/-! ### the rules for use -/
section
variable {E : Env} {l : List Oper} {fr : List (Nat × AV)} {hp : List (Nat × Ob)} {nx d : Nat} {cert : List (Nat × Bool)} {W : List Nat} {nr : Nat} {os ms os0 ms0 : List Nat} {early fl : Bool} {s : AS} {k : AS → Prop} {i : Nat} {oi : Oper}
theorem uPS {x : AV} (hi : nth l i = some oi) (h : PS E (some os) fl ⟨fr, hp, nx⟩ oi.op x) (hg : gdv l ⟨fr, hp, nx⟩ oi = some true) (hd : oi.dst = some d) (hn : Nat.blt d E.nt = true) (kk : AH2 E l cert W nr os ms os0 ms0 early fl ⟨(d, x) :: fr, hp, nx⟩ k) : AH2 E l ((i, true) :: cert) W nr os ms os0 ms0 early fl ⟨fr, hp, nx⟩ k :=
  ah2_ps hi h hg (dok_of hd hn) (by rw [putd_of hd]; exact kk)
theorem u1 {x : AV} (hi : nth l i = some oi) (h : aev E.te (some os) fl ⟨fr, hp, nx⟩ oi.op = some x) (hg : gdv l ⟨fr, hp, nx⟩ oi = some true) (hd : oi.dst = some d) (hn : Nat.blt d E.nt = true) (kk : AH2 E l cert W nr os ms os0 ms0 early fl ⟨(d, x) :: fr, hp, nx⟩ k) : AH2 E l ((i, true) :: cert) W nr os ms os0 ms0 early fl ⟨fr, hp, nx⟩ k :=
  uPS hi (ps_of_aev E.hte h) hg hd hn kk
theorem uAr {op : BinOp} {t t' : TypeId} {x y : Operand} {a b r : Int} (hi : nth l i = some oi) (ho : oi.op = .binOp op t x y t') (hx : AS.eval ⟨fr, hp, nx⟩ x = some (.h (.c (.int .i64 a)))) (hy : AS.eval ⟨fr, hp, nx⟩ y = some (.h (.c (.int .i64 b)))) (hr : arI op a b = some r)
    (hg : gdv l ⟨fr, hp, nx⟩ oi = some true) (hd : oi.dst = some d) (hn : Nat.blt d E.nt = true) (h1 : -9223372036854775808 ≤ r) (h2 : r ≤ 9223372036854775807) (kk : AH2 E l cert W nr os ms os0 ms0 early fl ⟨(d, .h (.c (.int .i64 r))) :: fr, hp, nx⟩ k) : AH2 E l ((i, true) :: cert) W nr os ms os0 ms0 early fl ⟨fr, hp, nx⟩ k :=
  uPS hi (by rw [ho]; exact ps_ar hx hy hr h1 h2) hg hd hn kk
theorem uRem {t t' : TypeId} {x y : Operand} {a b : Int} (hi : nth l i = some oi) (ho : oi.op = .binOp .rem t x y t') (hx : AS.eval ⟨fr, hp, nx⟩ x = some (.h (.c (.int .i64 a)))) (hy : AS.eval ⟨fr, hp, nx⟩ y = some (.h (.c (.int .i64 b))))
    (hg : gdv l ⟨fr, hp, nx⟩ oi = some true) (hd : oi.dst = some d) (hn : Nat.blt d E.nt = true) (h0 : 0 ≤ a) (h1 : 0 < b) (kk : AH2 E l cert W nr os ms os0 ms0 early fl ⟨(d, .h (.c (.int .i64 (a % b)))) :: fr, hp, nx⟩ k) : AH2 E l ((i, true) :: cert) W nr os ms os0 ms0 early fl ⟨fr, hp, nx⟩ k :=
  uPS hi (by rw [ho]; exact ps_rem hx hy h0 h1) hg hd hn kk
theorem uIx0 {t e : Nat} {sz b' : Nat} {zs : List CV} {x ix : Operand} {id n : Nat} {ty e' : Nat} {xs : List CV} {q : Int} {inf : TInf} (m : Nat) (hi : nth l i = some oi) (ho : oi.op = .indexAddr t x ix)
    (hx : AS.eval ⟨fr, hp, nx⟩ x = some (.h (.sl id 0 n))) (hj : AS.eval ⟨fr, hp, nx⟩ ix = some (.h (.c (.int .i64 q)))) (ht : look t E.te = some ⟨.slice e, sz, b', zs⟩) (he : look e E.te = some inf) (hob : look id hp = some (.arr ty e' xs)) (hes : e' = inf.sz)
    (hg : gdv l ⟨fr, hp, nx⟩ oi = some true) (hd : oi.dst = some d) (hn : Nat.blt d E.nt = true) (hk : q = (m : Int)) (hlt : m < n) (kk : AH2 E l cert W nr os ms os0 ms0 early fl ⟨(d, .h (.ptr id (m * inf.sz))) :: fr, hp, nx⟩ k) : AH2 E l ((i, true) :: cert) W nr os ms os0 ms0 early fl ⟨fr, hp, nx⟩ k := by
  refine uPS hi (by rw [ho]; exact ps_ixo m E.hte hx hj hk hlt ht he hob hes) hg hd hn ?_
  rw [Nat.zero_add]; exact kk
/-- A load of an element of a row that a late writer will append to. -/
theorem uLdD {α : Type} {f : α → List CV} {t : Nat} {x : Operand} {id off : Nat} {ty e : Nat} {L : List α} {inf : TInf} {v : AV} (D : List Nat) (m c : Nat) (hi : nth l i = some oi) (ho : oi.op = .load t x) (hx : AS.eval ⟨fr, hp, nx⟩ x = some (.h (.ptr id off))) (hob : look id hp = some (.arr ty e (rows f L))) (hl : look t E.te = some inf)
    (hg : gdv l ⟨fr, hp, nx⟩ oi = some true) (hd : oi.dst = some d) (hn : Nat.blt d E.nt = true) (hid : okid (some os0) id = true) (hD : depOk .any l.toArray D i = true) (hW : W.all (fun j => D.contains j) = true) (hDc : D.all (fun d => d == i || cert.any (fun p => p.1 == d)) = true) (hf : ∀ a, (f a).length = e) (hoff : off = m * e + c) (hc : c ≤ e) (hlt : m < L.length) (h : loadH inf ((((f L[m]).drop c ++ rows f (L.drop (m + 1))).take inf.sz).map HV.c) = some v)
    (kk : AH2 E l cert W nr os ms os0 ms0 true fl ⟨(d, v) :: fr, hp, nx⟩ k) : AH2 E l ((i, true) :: cert) W nr os ms os0 ms0 true fl ⟨fr, hp, nx⟩ k :=
  ah2_psD D hi (by rw [ho]; exact ps_ldo E.hte hx hob hl hid (by rw [hoff, ← List.drop_drop, rows_at hf hlt, List.drop_append_of_le_length (by rw [hf]; exact hc)]) h) hg (dok_of hd hn) hD hW hDc (by rw [putd_of hd]; exact kk)
theorem uE {s' : AS} {m : List Nat} (hi : nth l i = some oi) (h : ES E s oi (some m) (fun x => x = s')) (hg : gdv l s oi = some true) (hW : W.contains i = false) (hm : m.all (fun id => ms.contains id || Nat.ble nr id) = true) (hm0 : m.all (fun id => ms0.contains id || Nat.ble nr id) = true) (hnx : Nat.ble s.nx s'.nx = true) (kk : AH2 E l cert W nr os ms os0 ms0 true false s' k) : AH2 E l ((i, false) :: cert) W nr os ms os0 ms0 true fl s k :=
  ah2_es hi h hg hW hm hm0 (fun x h => by rw [h]; exact Nat.le_of_ble_eq_true hnx) fun x h => by rw [h]; exact kk
theorem uLate {s' : AS} {m : List Nat} (hi : nth l i = some oi) (h : ES E s oi (some m) (fun x => x = s')) (hg : gdv l s oi = some true) (hW : W.contains i = true) (hm : m.all (fun id => ms.contains id || Nat.ble nr id) = true) (hnx : Nat.ble s.nx s'.nx = true) (kk : AH2 E l cert W nr os ms os0 ms0 false false s' k) : AH2 E l ((i, false) :: cert) W nr os ms os0 ms0 early fl s k :=
  ah2_late hi h hg hW hm (fun x h => by rw [h]; exact Nat.le_of_ble_eq_true hnx) fun x h => by rw [h]; exact kk
/-- A call that is handed an object. -/
theorem uCo {f : FuncId} {as : List Operand} {xs ys : List AV} {rt : List Nat} {ob : Ob} {rs : List (Nat × Ob)} (id : Nat) {α : Type} {R : α → Prop} {ob' : α → Ob} {x : α → AV} (hc : AC E.P f ys [ob] rt (fun r h => ∃ a, R a ∧ h = [ob' a] ∧ r = x a)) (hi : nth l i = some oi) (hop : callOf ⟨fr, hp, nx⟩ oi.op = some (f, as)) (hev : AS.evals ⟨fr, hp, nx⟩ as = some xs) (hpk : pick [id] hp = some ([ob], rs)) (hpu : ob.pu = true) (hbx : ob.bx = true) (hpu' : ∀ a, (ob' a).pu = true) (hx : ∀ a f, (x a).ren f = x a)
    (hg : gdv l ⟨fr, hp, nx⟩ oi = some true) (hd : oi.dst = some d) (hn : Nat.blt d E.nt = true) (hW : W.contains i = false) (hT : 99 ∉ rt) (hm : [id].all (fun id => ms.contains id || Nat.ble nr id) = true) (hm0 : [id].all (fun id => ms0.contains id || Nat.ble nr id) = true) (hb : BorAs rs [id] 99 xs ys)
    (kk : ∀ a, R a → AH2 E l cert W nr os ms os0 ms0 true false ⟨(d, x a) :: fr, (id, ob' a) :: rs, nx⟩ k) : AH2 E l ((i, false) :: cert) W nr os ms os0 ms0 true fl ⟨fr, hp, nx⟩ k := by
  have h := eCall (d := d) hc 99 [id] hop hev hpk (by simp [hpu]) hd hn hb hT
  rw [if_pos (by simp [hbx])] at h
  refine ah2_es hi h hg hW hm hm0 (fun x ⟨r, hout, _, e⟩ => by rw [e]; exact Nat.le_add_right _ _) fun s' ⟨r, hout, hp, e⟩ => ?_
  subst e
  obtain ⟨a, ha, rfl, rfl⟩ := hp
  rw [hx a]
  simp only [named, ob_ren_pu (hpu' a)]
  exact kk a ha
end
end Go.Proofs.Ytjijkdhjfanpaaa
