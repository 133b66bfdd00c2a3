/- The engine, part k: regions that draw their order. What only computes and reads is taken as soon as it may come up; what acts must be alone. -/
import Derived.Test.YtjijkdhjfanpaaaEj
namespace Go.Proofs.Ytjijkdhjfanpaaa
open Go.RowKit

section
variable {P : Program} {ops : Array Oper} {Q : Exit → Act → World → Prop} {md : Region.Mode} {T : World → World → Prop}
/-- In state 'a', in every world that may come from w, operation 'o' leaves 'v' and does nothing else. -/
def YT (P : Program) (ops : Array Oper) (T : World → World → Prop) (o : Oper) (v : Value) (a : Act) (w : World) : Prop :=
  (Region.wanted o (yielded ops a.tmps) = true ∧ ∀ w', T w w' → (execOp a.eval o).run P w' = .ok (.value v) w') ∨ (Region.wanted o (yielded ops a.tmps) = false ∧ v = undef)
theorem YT.wpOp {i : Nat} {o : Oper} {v : Value} {a : Act} {w : World} (hr : ∀ w, T w w) (hi : ops[i]? = some o) (hy : YT P ops T o v a w) {K : Act → World → Prop} (h : K (a.put o.dst v) w) : wpOp P ops Q i K a w := by
  unfold Go.wpOp
  simp only [hi]
  rcases hy with ⟨hw, hv⟩ | ⟨hw, rfl⟩
  · simp only [hw, if_true, Oper.wp, hv w (hr w), Oper.upon]; exact .inl h
  · simp only [hw, Bool.false_eq_true, if_false]; exact h
theorem YT.of_same {o : Oper} {v : Value} {a a' : Act} {w : World} (hy : YT P ops T o v a w) (he : execOp a'.eval o = execOp a.eval o) (hw : Region.wanted o (yielded ops a'.tmps) = Region.wanted o (yielded ops a.tmps)) : YT P ops T o v a' w := by
  unfold YT at *
  rw [he, hw]
  exact hy
theorem YT.step {o : Oper} {v : Value} {a : Act} {w w' : World} (ht : ∀ a b c, T a b → T b c → T a c) (hy : YT P ops T o v a w) (h : T w w') : YT P ops T o v a w' :=
  hy.imp (fun ⟨h1, h2⟩ => ⟨h1, fun w'' h3 => h2 w'' (ht _ _ _ h h3)⟩) id
theorem wpOp_putT {j : Nat} {oi oj : Oper} {v : Value} (hj : ops[j]? = some oj) (hap : oi.apart ops oj = true)
    (hsi : ∀ cs b, oi.op ≠ .select cs b) (hsj : ∀ cs b, oj.op ≠ .select cs b)
    (hQ : ∀ c a w, Q (.panic c) (a.put oi.dst v) w → Q (.panic c) a w) {K : Act → World → Prop} {a : Act} {w : World}
    (hy : YT P ops T oi v a w) (h : wpOp P ops Q j K (a.put oi.dst v) w) :
    wpOp P ops Q j (fun a' w' => YT P ops T oi v a' w ∧ K (a'.put oi.dst v) w') a w := by
  obtain ⟨h1, h2, h3⟩ := Oper.apart_spec hap
  have keep : ∀ (a : Act), YT P ops T oi v a w → ∀ u, YT P ops T oi v (a.put oj.dst u) w := fun a hy u =>
    hy.of_same (execOp_put oi hsi a oj.dst u h3) (wanted_put oi a oj.dst u h3)
  have keepD : ∀ d, YT P ops T oi v { a with defers := d :: a.defers } w := fun d => hy.of_same rfl rfl
  unfold wpOp at *
  simp only [hj] at *
  rw [wanted_put oj a oi.dst v h1] at h
  split
  · rename_i hw
    simp only [hw, if_true] at h
    rcases h with h | ⟨hasks, hlets⟩
    case inr => exact .inr ⟨by unfold Oper.asks at *; rw [execOp_put oj hsj a oi.dst v h1] at hasks; exact hasks, hlets⟩
    refine .inl ?_
    unfold Oper.wp at *
    rw [execOp_put oj hsj a oi.dst v h1] at h
    generalize (execOp a.eval oj).run P w = r at *
    cases r with
    | ok n w' =>
      cases n <;> simp only [Oper.upon] at h ⊢
      case value u => exact ⟨keep a hy u, by rw [← Act.put_comm a v u h2]; exact h⟩
      case skip => exact ⟨keep a hy _, by rw [← Act.put_comm a v undef h2]; exact h⟩
      case defer d =>
        refine ⟨YT.of_same (keepD d) (execOp_put oi hsi _ oj.dst undef h3) (wanted_put oi _ oj.dst undef h3), ?_⟩
        rw [← Act.put_comm _ v undef h2, ← Act.put_defers]
        exact h
      case enter f args =>
        refine Calls.mono h fun e w'' he => ?_
        cases e with
        | returned u => exact ⟨keep a hy u, by rw [← Act.put_comm a v u h2]; exact he⟩
        | panicked c => exact hQ _ _ _ he
        | outgrown => exact he
      case row row args => exact Rows.mono h fun u w'' he => ⟨keep a hy u, by rw [← Act.put_comm a v u h2]; exact he⟩
    | halt x w' =>
      cases x <;> simp only [Oper.upon] at h ⊢
      case panic u => exact hQ _ _ _ h
  · rename_i hw
    simp only [hw] at h
    exact ⟨keep a hy _, by rw [← Act.put_comm a v undef h2]; exact h⟩
/-- Whatever order is picked from here on, and every step is one of T. -/
def wpAnyT (P : Program) (md : Region.Mode) (ops : Array Oper) (Q : Exit → Act → World → Prop) (T : World → World → Prop) : Nat → Array Bool → Act → World → Prop
  | 0, listed, a, w => Region.ready md ops listed = [] ∧ Q .normal a w
  | fuel + 1, listed, a, w =>
    (Region.ready md ops listed = [] → Q .normal a w) ∧
    ∀ i ∈ Region.ready md ops listed, wpOp P ops Q i (fun a' w' => T w w' ∧ wpAnyT P md ops Q T fuel (listed.setIfInBounds i true) a' w') a w
theorem wpAny_of_T : ∀ (fuel : Nat) (listed : Array Bool) (a : Act) (w : World), wpAnyT P md ops Q T fuel listed a w → wpAny P md ops Q fuel listed a w
  | 0, _, _, _, h => h
  | fuel + 1, _, _, _, h => ⟨h.1, fun i hi => wpOp_mono (fun a' w' h' => wpAny_of_T fuel _ a' w' h'.2) (h.2 i hi)⟩
theorem wpAnyT_first {i : Nat} {oi : Oper} {v : Value} (hTr : ∀ w, T w w) (hTt : ∀ a b c, T a b → T b c → T a c) (hi : ops[i]? = some oi) (hsel : ∀ (j : Nat) (o : Oper) cs b, ops[j]? = some o → o.op ≠ .select cs b)
    (hQ : ∀ c a w, Q (.panic c) (a.put oi.dst v) w → Q (.panic c) a w) :
    ∀ (fuel : Nat) (listed : Array Bool) (a : Act) (w : World),
      (∀ j oj, ops[j]? = some oj → j ≠ i → listed.getD j true = false → (∀ e ∈ oj.after, Region.binds md e = true → e.on ≠ i) → oi.apart ops oj = true) →
      i ∈ Region.ready md ops listed → YT P ops T oi v a w →
      wpAnyT P md ops Q T fuel (listed.setIfInBounds i true) (a.put oi.dst v) w → wpAnyT P md ops Q T (fuel + 1) listed a w := by
  intro fuel
  induction fuel with
  | zero =>
    intro listed a w _ hr hy H
    refine ⟨fun h => (by rw [h] at hr; cases hr), fun j hj => ?_⟩
    by_cases hji : j = i
    · subst hji; exact hy.wpOp hTr hi ⟨hTr w, H⟩
    · have := ready_mono hj hji
      rw [H.1] at this
      cases this
  | succ fuel ih =>
    intro listed a w hfree hr hy H
    refine ⟨fun h => (by rw [h] at hr; cases hr), fun j hj => ?_⟩
    by_cases hji : j = i
    · subst hji; exact hy.wpOp hTr hi ⟨hTr w, H⟩
    · have h1 := H.2 j (ready_mono hj hji)
      obtain ⟨hjun, oj, hoj, hall⟩ := mem_ready.1 hj
      have hnot : ∀ e ∈ oj.after, Region.binds md e = true → e.on ≠ i := fun e he hb heq => by
        have h1 := hall e he hb
        have h0 := (mem_ready.1 hr).1
        rw [heq] at h1
        rcases Nat.lt_or_ge i listed.size with h' | h'
        · simp [h'] at h0 h1; rw [h0] at h1; cases h1
        · simp [Array.getElem?_eq_none h'] at h1
      have h2 := wpOp_putT hoj (hfree j oj hoj hji hjun hnot) (fun cs b => hsel i oi cs b hi) (fun cs b => hsel j oj cs b hoj) hQ hy h1
      have hfree' : ∀ k ok, ops[k]? = some ok → k ≠ i → (listed.setIfInBounds j true).getD k true = false →
          (∀ e ∈ ok.after, Region.binds md e = true → e.on ≠ i) → oi.apart ops ok = true := fun k ok hk hki hun hno => by
        refine hfree k ok hk hki ?_ hno
        by_cases hjk : j = k
        · subst hjk; exact hjun
        · rw [getD_set_ne true hjk] at hun; exact hun
      refine wpOp_mono (fun a' w' h3 => ⟨h3.2.1, ih (listed.setIfInBounds j true) a' w' hfree' (ready_mono hr (Ne.symm hji)) (h3.1.step hTt h3.2.1) ?_⟩) h2
      rw [Array.setIfInBounds_comm _ _ hji]
      exact h3.2.2
end

/-- The order in which the operations are taken: the number, and whether it only computes and reads. -/
def certOk (ops : Array Oper) : List (Nat × Bool) → Array Bool → Bool
  | [], listed => (Region.ready .any ops listed).isEmpty
  | (i, true) :: r, listed => (Region.ready .any ops listed).contains i && Region.free .any ops listed i && certOk ops r (listed.setIfInBounds i true)
  | (i, false) :: r, listed => (Region.ready .any ops listed == [i]) && certOk ops r (listed.setIfInBounds i true)
/-- The order as a tree: where two operations that act may both come up, either comes first. -/
inductive CT where
  | nil
  | cons (p : Nat × Bool) (r : CT)
  | fork (i j : Nat) (a b : CT)
def CT.len : CT → Nat
  | .nil => 0
  | .cons _ r => r.len + 1
  | .fork _ _ a _ => a.len + 1
def ctOk (ops : Array Oper) : CT → Array Bool → Bool
  | .nil, listed => (Region.ready .any ops listed).isEmpty
  | .cons (i, true) r, listed => (Region.ready .any ops listed).contains i && Region.free .any ops listed i && ctOk ops r (listed.setIfInBounds i true)
  | .cons (i, false) r, listed => (Region.ready .any ops listed == [i]) && ctOk ops r (listed.setIfInBounds i true)
  | .fork i j a b, listed => (Region.ready .any ops listed == [i, j]) && (Nat.beq a.len b.len && (ctOk ops a (listed.setIfInBounds i true) && ctOk ops b (listed.setIfInBounds j true)))
structure AJ (g : Ga) (im : Im) (w : World) (M : Nat → Prop) (n0 nr : Nat) (os ms : List Nat) (fl : Bool) : Prop where
  ai : AI g im M n0 (some os) fl
  on : ∀ i ∈ os, i < nr
  sz : n0 ≤ w.heap.size
  mn : ∀ b, M b → b < n0
  new : ∀ i bi b, nr ≤ i → g i = some bi → bi.a = some b → n0 ≤ b ∨ M b
  mds : ∀ i bi b, i ∈ ms → i < nr → g i = some bi → bi.a = some b → M b ∨ ∃ t, im t b
def NQ (k : AS → Prop) : Exit → AS → Prop := fun e s => e = .normal ∧ k s
def ctPre (ops : Array Oper) : CT → Array Bool → Bool
  | .cons (i, false) r, listed => ctOk ops r (listed.setIfInBounds i true)
  | .cons (i, true) r, listed => ctOk ops (.cons (i, true) r) listed
  | .nil, listed => ctOk ops .nil listed
  | .fork i j a b, listed => ctOk ops (.fork i j a b) listed
def AHW (P : Program) (ops : Array Oper) (Q : Exit → Act → World → Prop) (T : World → World → Prop) : CT → Array Bool → Act → World → Prop
  | .cons (i, false) r, listed, a, w => wpOp P ops Q i (fun a' w' => T w w' ∧ wpAnyT P .any ops Q T r.len (listed.setIfInBounds i true) a' w') a w
  | .cons (i, true) r, listed, a, w => wpAnyT P .any ops Q T (CT.cons (i, true) r).len listed a w
  | .nil, listed, a, w => wpAnyT P .any ops Q T CT.nil.len listed a w
  | .fork i j a' b, listed, a, w => wpAnyT P .any ops Q T (CT.fork i j a' b).len listed a w
theorem ctPre_of {ops : Array Oper} {c : CT} {listed : Array Bool} (h : ctOk ops c listed = true) : ctPre ops c listed = true := by
  cases c with
  | nil => exact h
  | cons p r =>
    obtain ⟨i, b⟩ := p
    cases b with
    | true => exact h
    | false => simp only [ctOk, Bool.and_eq_true] at h; exact h.2
  | fork => exact h
theorem AHW_any {P : Program} {ops : Array Oper} {Q : Exit → Act → World → Prop} {T : World → World → Prop} {c : CT} {listed : Array Bool} {a : Act} {w : World} (hc : ctOk ops c listed = true) (h : AHW P ops Q T c listed a w) : wpAnyT P .any ops Q T c.len listed a w := by
  cases c with
  | nil => exact h
  | cons p r =>
    obtain ⟨i, b⟩ := p
    cases b with
    | true => exact h
    | false =>
      simp only [ctOk, Bool.and_eq_true, beq_iff_eq] at hc
      obtain ⟨hr, _⟩ := hc
      refine ⟨fun h => (by rw [hr] at h; cases h), fun j hj => ?_⟩
      rw [hr] at hj
      simp only [List.mem_singleton] at hj
      subst hj
      exact h
  | fork => exact h
/-- A region that draws, from a place of the order on. nr: the first object that the region makes; ms: the objects that it may write; fl: nothing has been laid open to reading since it began. -/
def AH (E : Env) (l : List Oper) (cert : CT) (nr : Nat) (os ms : List Nat) (fl : Bool) (s : AS) (k : AS → Prop) : Prop :=
  Region.noSelect l.toArray = true → ∀ listed, ctPre l.toArray cert listed = true → ∀ g im a w M n0, Sim E g im s a w → AJ g im w M n0 nr os ms fl → nr ≤ s.nx →
    AHW E.P l.toArray (Lift E (NQ k)) (TrM M n0) cert listed a w
theorem AH.any {E : Env} {l : List Oper} {cert : CT} {nr : Nat} {os ms : List Nat} {fl : Bool} {s : AS} {k : AS → Prop} (h : AH E l cert nr os ms fl s k) (hsel : Region.noSelect l.toArray = true) (listed : Array Bool) (hc : ctOk l.toArray cert listed = true) (g : Ga) (im : Im) (a : Act) (w : World) (M : Nat → Prop) (n0 : Nat) (hs : Sim E g im s a w) (hJ : AJ g im w M n0 nr os ms fl) (hnr : nr ≤ s.nx) :
    wpAnyT E.P .any l.toArray (Lift E (NQ k)) (TrM M n0) cert.len listed a w := AHW_any hc (h hsel listed (ctPre_of hc) g im a w M n0 hs hJ hnr)
theorem TrM_refl (M : Nat → Prop) (n0 : Nat) (w : World) : TrM M n0 w w := fun _ _ _ => rfl
theorem TrM_trans (M : Nat → Prop) (n0 : Nat) (a b c : World) (h : TrM M n0 a b) (h' : TrM M n0 b c) : TrM M n0 a c := fun x h1 h2 => (h' x h1 h2).trans (h x h1 h2)
theorem nq_panic {E : Env} {k : AS → Prop} (c : List PanicEntry) (a a' : Act) (w : World) (h : Lift E (NQ k) (.panic c) a w) : Lift E (NQ k) (.panic c) a' w := by
  obtain ⟨g, im, s, h1, h2, h3⟩ := h
  cases h2
section
variable {E : Env} {l : List Oper} {cert : CT} {nr : Nat} {os ms : List Nat} {fl : Bool} {s : AS} {k : AS → Prop}
theorem ah_nil (h : k s) : AH E l CT.nil nr os ms fl s k := by
  intro hsel listed hc g im a w M n0 hs hJ hnr
  simp only [ctPre, ctOk, List.isEmpty_iff] at hc
  exact ⟨hc, g, im, s, hs, rfl, h⟩
theorem ah_ps {i : Nat} {oi : Oper} {x : AV} (hi : nth l i = some oi) (h : PS E (some os) fl s oi.op x) (hg : gdv l s oi = some true) (hd : dok E.nt oi.dst = true) (kk : AH E l cert nr os ms fl (s.putd oi.dst x) k) : AH E l (CT.cons (i, true) cert) nr os ms fl s k := by
  intro hsel listed hc g im a w M n0 ⟨fps, hs⟩ hJ hnr
  simp only [ctPre, ctOk, Bool.and_eq_true] at hc
  obtain ⟨⟨hr, hf⟩, hc'⟩ := hc
  have hi' : l.toArray[i]? = some oi := by rw [List.getElem?_toArray, ← nth_eq]; exact hi
  obtain ⟨v, hv, hrun⟩ := h g im a w M n0 ⟨fps, hs⟩ hJ.ai
  refine wpAnyT_first (TrM_refl M n0) (TrM_trans M n0) hi' (Region.noSelect_spec hsel) (fun c a w h => nq_panic c _ _ w h) _ listed a w (Region.free_spec hi' hf) (by simpa using hr) (.inl ⟨wanted_of hs hg, fun w' hw' => hrun w' hw' oi rfl⟩) ?_
  exact kk.any hsel _ hc' g im _ w M n0 ⟨fps, hs.putd (dok_lt hd) hv⟩ hJ (by cases hdd : oi.dst <;> simpa [AS.putd, AS.put] using hnr)
theorem ah_skip {i : Nat} {b : Bool} {oi : Oper} (hi : nth l i = some oi) (hg : gdv l s oi = some false) (hd : dok E.nt oi.dst = true) (kk : AH E l cert nr os ms fl (s.putd oi.dst (.tup [])) k) : AH E l (CT.cons (i, b) cert) nr os ms fl s k := by
  intro hsel listed hc g im a w M n0 ⟨fps, hs⟩ hJ hnr
  have hi' : l.toArray[i]? = some oi := by rw [List.getElem?_toArray, ← nth_eq]; exact hi
  have hsim : SimF E g im fps (s.putd oi.dst (.tup [])) (a.put oi.dst undef) w := hs.putd (dok_lt hd) (by simp only [RA]; exact ⟨[], rfl, by simp [RAs]⟩)
  have hnr' : nr ≤ (s.putd oi.dst (.tup [])).nx := by cases hdd : oi.dst <;> simpa [AS.putd, AS.put] using hnr
  cases b with
  | true =>
    simp only [ctPre, ctOk, Bool.and_eq_true] at hc
    obtain ⟨⟨hr, hf⟩, hc'⟩ := hc
    exact wpAnyT_first (v := undef) (TrM_refl M n0) (TrM_trans M n0) hi' (Region.noSelect_spec hsel) (fun c a w h => nq_panic c _ _ w h) _ listed a w (Region.free_spec hi' hf) (by simpa using hr) (.inr ⟨wanted_of hs hg, rfl⟩) (kk.any hsel _ hc' g im _ w M n0 ⟨fps, hsim⟩ hJ hnr')
  | false =>
    have hc' : ctOk l.toArray cert (listed.setIfInBounds i true) = true := hc
    simp only [AHW]
    unfold wpOp
    simp only [hi']
    rw [if_neg (by rw [wanted_of hs hg]; simp)]
    exact ⟨TrM_refl M n0 w, kk.any hsel _ hc' g im _ w M n0 ⟨fps, hsim⟩ hJ hnr'⟩
theorem ah_es {i : Nat} {oi : Oper} {m : List Nat} {Q' : AS → Prop} (hi : nth l i = some oi) (h : ES E s oi (some m) Q') (hg : gdv l s oi = some true) (hm : m.all (fun id => ms.contains id || Nat.ble nr id) = true) (hnx : ∀ s', Q' s' → s.nx ≤ s'.nx) (kk : ∀ s', Q' s' → AH E l cert nr os ms false s' k) : AH E l (CT.cons (i, false) cert) nr os ms fl s k := by
  intro hsel listed hc g im a w M n0 ⟨fps, hs⟩ hJ hnr
  have hi' : l.toArray[i]? = some oi := by rw [List.getElem?_toArray, ← nth_eq]; exact hi
  have hc' : ctOk l.toArray cert (listed.setIfInBounds i true) = true := hc
  simp only [AHW]
  unfold wpOp
  simp only [hi']
  rw [if_pos (wanted_of hs hg)]
  refine .inl (h g im a w _ _ ⟨fps, hs⟩ ?_)
  intro g' im' s' a' w' F hs' hq hch hof
  have hF : ∀ b, F b → b < n0 → M b := by
    intro b hb hlt
    obtain ⟨id, hid, bi, h1, h2⟩ := hof m rfl b hb
    have := List.all_eq_true.1 hm id hid
    simp only [Bool.or_eq_true] at this
    by_cases hidn : id < nr
    · rcases this with h3 | h3
      · rcases hJ.mds id bi b (by simpa using h3) hidn h1 h2 with h4 | ⟨t, h4⟩
        · exact h4
        · exact absurd h4 (hch.fi b hb t)
      · have := Nat.le_of_ble_eq_true h3; omega
    · rcases hJ.new id bi b (by omega) h1 h2 with h4 | h4
      · omega
      · exact h4
  have hT : TrM M n0 w w' := by
    intro b hb hMb
    have := hJ.sz
    rcases hch.ch b (by omega) with h1 | h1
    · exact absurd (hF b h1 hb) hMb
    · exact h1
  refine ⟨hT, (kk s' hq).any hsel _ hc' g' im' a' w' M n0 hs' ?_ (Nat.le_trans hnr (hnx s' hq))⟩
  have hsz := hJ.sz
  have hgold : ∀ i bi, i < nr → g' i = some bi → g i = some bi := fun i bi h1 h2 => by rw [← hch.gx i (by omega)]; exact h2
  refine ⟨⟨?_, ?_, ?_⟩, hJ.on, Nat.le_trans hJ.sz hch.sz, hJ.mn, ?_, ?_⟩
  · intro t b h1 h2
    rcases hch.imn t b h1 with h3 | ⟨_, h3⟩
    · exact hJ.ai.imM t b h3 h2
    · have := hJ.mn b h2; omega
  · intro t b h1 h2
    rcases h1 with h1 | h1
    · cases h1
    · rcases hch.imn t b h2 with h3 | ⟨h3, _⟩
      · exact hJ.ai.imo t b (.inr h1) h3
      · exact absurd h3 h1
  · intro id h1 bi b h3 h4
    exact hJ.ai.old id h1 bi b (hgold id bi (hJ.on id (by simpa [okid] using h1)) h3) h4
  · intro i bi b h1 h2 h3
    by_cases hin : i < s.nx
    · exact hJ.new i bi b h1 (by rw [← hch.gx i hin]; exact h2) h3
    · rcases hch.gn i bi b (by omega) h2 h3 with h4 | h4
      · left; omega
      · by_cases hlt : b < n0
        · exact .inr (hF b h4 hlt)
        · left; omega
  · intro i bi b h1 h2 h3 h4
    rcases hJ.mds i bi b h1 h2 (hgold i bi h2 h3) h4 with h5 | ⟨t, h5⟩
    · exact .inl h5
    · exact .inr ⟨t, hch.imm t b h5⟩
/-- Two operations that act may come up: either comes first. -/
theorem ah_fork {i j : Nat} {c1 c2 : CT} (h1 : AH E l (CT.cons (i, false) c1) nr os ms fl s k) (h2 : AH E l (CT.cons (j, false) c2) nr os ms fl s k) : AH E l (CT.fork i j c1 c2) nr os ms fl s k := by
  intro hsel listed hc g im a w M n0 hs hJ hnr
  simp only [ctPre, ctOk, Bool.and_eq_true, beq_iff_eq] at hc
  obtain ⟨hr, hl, hc1, hc2⟩ := hc
  have hl' := Nat.eq_of_beq_eq_true hl
  refine ⟨fun h => (by rw [hr] at h; cases h), fun q hq => ?_⟩
  rw [hr] at hq
  simp only [List.mem_cons, List.not_mem_nil, or_false] at hq
  rcases hq with rfl | rfl
  · exact h1 hsel listed hc1 g im a w M n0 hs hJ hnr
  · have := h2 hsel listed hc2 g im a w M n0 hs hJ hnr
    rw [hl']
    exact this
theorem ah_split (d : Nat) {b : Bool} (hb : look d s.fr = some (.h (.c (.bool b)))) (kt : b = true → AH E l cert nr os ms fl (s.put d (.h (.c (.bool true)))) k) (kf : b = false → AH E l cert nr os ms fl (s.put d (.h (.c (.bool false)))) k) : AH E l cert nr os ms fl s k := by
  intro hsel listed hc g im a w M n0 ⟨fps, hs⟩ hJ hnr
  have := put_same hs hb
  cases b with
  | true => exact kt rfl hsel listed hc g im a w M n0 ⟨fps, this⟩ hJ hnr
  | false => exact kf rfl hsel listed hc g im a w M n0 ⟨fps, this⟩ hJ hnr
theorem HR_apart {g : Ga} {im : Im} {w : World} : ∀ (hp : List (Nat × Ob)) (fps : List Nat), HR g im w hp fps → fps.Nodup → ∀ i j oi oj bi bj b, look i hp = some oi → look j hp = some oj → i ≠ j → g i = some bi → g j = some bj → bi.a = some b → bj.a = some b → False := by
  intro hp fps h hn i j oi oj bi bj b h1 h2 hne hg1 hg2 hb1 hb2
  obtain ⟨bi', f1, f2, f3, hg, rfl, hro, hd⟩ := HR_del h h1
  obtain rfl : bi = bi' := by rw [hg1] at hg; exact Option.some.inj hg
  have h2' : look j (del i hp) = some oj := by
    clear h hd hro hn
    induction hp with
    | nil => simp [look] at h2
    | cons p r ih =>
      obtain ⟨q, x⟩ := p
      by_cases hqi : i = q
      · subst hqi
        rw [look_cons_ne (Ne.symm hne)] at h2
        simp only [del, Nat.beq_refl, cond_true]
        exact h2
      · have hbf : Nat.beq i q = false := by
          cases hb : Nat.beq i q with
          | false => rfl
          | true => exact absurd (Nat.eq_of_beq_eq_true hb) hqi
        simp only [del, hbf, cond_false]
        rw [look_cons_ne hqi] at h1
        by_cases hqj : j = q
        · subst hqj
          rw [look_cons_eq] at h2 ⊢
          exact h2
        · rw [look_cons_ne hqj] at h2 ⊢
          exact ih h1 h2
  obtain ⟨bj', f4, f5, f6, hg', hf, hro', _⟩ := HR_del hd h2'
  obtain rfl : bj = bj' := by rw [hg2] at hg'; exact Option.some.inj hg'
  have m1 := RO_mem hro hb1
  have m2 := RO_mem hro' hb2
  have m3 : b ∈ f1 ++ f3 := by rw [hf]; exact List.mem_append_right _ (List.mem_append_left _ m2)
  rw [List.nodup_append] at hn
  obtain ⟨n1, n2, n3⟩ := hn
  rw [List.nodup_append] at n2
  rcases List.mem_append.1 m3 with h | h
  · exact n3 b h b (List.mem_append_left _ m1) rfl
  · exact n2.2.2 b m1 b h rfl
theorem wpAny_imp {P : Program} {ops : Array Oper} {md : Region.Mode} {Q Q' : Exit → Act → World → Prop} (h : ∀ e a w, Q e a w → Q' e a w) : ∀ (fuel : Nat) (listed : Array Bool) (a : Act) (w : World), wpAny P md ops Q fuel listed a w → wpAny P md ops Q' fuel listed a w
  | 0, _, _, _, hh => ⟨hh.1, h _ _ _ hh.2⟩
  | fuel + 1, listed, a, w, hh => by
    refine ⟨fun h0 => h _ _ _ (hh.1 h0), fun i hi => ?_⟩
    have := hh.2 i hi
    unfold wpOp at this ⊢
    split
    · rename_i hn; rw [hn] at this; exact wpAny_imp h fuel _ _ _ this
    · rename_i o ho
      rw [ho] at this
      simp only at this
      split
      · rename_i hw
        rw [if_pos hw] at this
        rcases this with h1 | ⟨h1, a', w', h2⟩
        · refine .inl ?_
          unfold Oper.wp at h1 ⊢
          generalize (execOp a.eval o).run P w = r at *
          cases r with
          | ok n w' =>
            cases n <;> simp only [Oper.upon] at h1 ⊢ <;>
              first
                | exact wpAny_imp h fuel _ _ _ h1
                | exact Calls.mono h1 (fun e w'' he => by
                    cases e with
                    | returned u => exact wpAny_imp h fuel _ _ _ he
                    | panicked c => exact h _ _ _ he
                    | outgrown => obtain ⟨a', w', h2⟩ := he; exact ⟨a', w', h _ _ _ h2⟩)
                | exact Rows.mono h1 (fun _ _ he => wpAny_imp h fuel _ _ _ he)
          | halt x w' => cases x <;> simp only [Oper.upon] at h1 ⊢ <;> exact h _ _ _ h1
        · exact .inr ⟨h1, a', w', h _ _ _ h2⟩
      · rename_i hw
        rw [if_neg hw] at this
        exact wpAny_imp h fuel _ _ _ this
def osOf (s : AS) (ms : List Nat) : List Nat := (s.hp.map (·.1)).filter fun i => !ms.contains i && Nat.blt i s.nx
/-- **A region that draws its order.** -/
theorem awp_draw {id : Nat} {Q : Exit → AS → Prop} (cert : CT) (ms : List Nat) (hm : E.P.follows .mixedOrders = true) (hsel : Region.noSelect l.toArray = true) (hc : ctOk l.toArray cert (Array.replicate l.length false) = true) (hl : Nat.beq cert.len l.length = true) (hms : ms.all (fun i => (look i s.hp).isSome) = true)
    (h : AH E l cert s.nx (osOf s ms) ms true s (fun s' => XT .normal s' Q)) : AWP E (.region id l.toArray true) s Q := by
  intro g im a w ⟨fps, hs⟩
  refine wp_region_any hm ?_
  have hlen := Nat.eq_of_beq_eq_true hl
  let M : Nat → Prop := fun b => (∃ id ∈ ms, ∃ bi, g id = some bi ∧ bi.a = some b) ∧ ∀ t, ¬ im t b
  let w1 : World := { w with drawn := w.drawn + 1 }
  have hs1 : SimF E g im fps s a w1 := hs.world (fun _ _ => rfl) (Nat.le_refl _) (hs.kp.trans_same rfl rfl rfl (Nat.le_refl _) fun _ _ => .inr rfl)
  have hJ : AJ g im w1 M w1.heap.size s.nx (osOf s ms) ms true := by
    refine ⟨⟨fun t b h1 h2 => h2.2 t h1, fun t b _ => hs1.il t b, fun id h1 bi b h3 h4 => ⟨hs1.gl id bi b h3 h4, ?_⟩⟩, ?_, Nat.le_refl _, ?_, ?_, ?_⟩
    · rintro ⟨⟨id', h5, bi', h6, h7⟩, h8⟩
      have hid : id ∈ osOf s ms := by simpa [okid] using h1
      simp only [osOf, List.mem_filter, Bool.and_eq_true, Bool.not_eq_true'] at hid
      obtain ⟨hid1, hid2, _⟩ := hid
      have hne : id ≠ id' := by
        rintro rfl
        have : ms.contains id = true := by simpa using h5
        rw [this] at hid2
        cases hid2
      obtain ⟨oj, hoj⟩ := Option.isSome_iff_exists.1 (List.all_eq_true.1 hms id' h5)
      have : ∃ oi, look id s.hp = some oi := by
        clear hms h
        revert hid1
        generalize s.hp = hp
        intro hid1
        induction hp with
        | nil => simp at hid1
        | cons p r ih =>
          obtain ⟨q, x⟩ := p
          by_cases hq : id = q
          · subst hq; exact ⟨x, look_cons_eq _ _ _⟩
          · rw [look_cons_ne hq]
            simp only [List.map_cons, List.mem_cons] at hid1
            exact ih (hid1.resolve_left hq)
      obtain ⟨oi, hoi⟩ := this
      exact HR_apart _ _ hs1.hp hs1.nd id id' oi oj bi bi' b hoi hoj hne h3 h6 h4 h7
    · intro i hi
      simp only [osOf, List.mem_filter, Bool.and_eq_true] at hi
      exact Nat.lt_of_succ_le (Nat.le_of_ble_eq_true hi.2.2)
    · rintro b ⟨⟨id', h5, bi', h6, h7⟩, _⟩
      exact hs1.gl id' bi' b h6 h7
    · intro i bi b h1 h2 _
      rw [hs1.gn i h1] at h2; cases h2
    · intro i bi b h1 h2 h3 h4
      by_cases hb : ∃ t, im t b
      · exact .inr hb
      · exact .inl ⟨⟨i, h1, bi, h3, h4⟩, fun t ht => hb ⟨t, ht⟩⟩
  have := h.any hsel _ hc g im a w1 M w1.heap.size ⟨fps, hs1⟩ hJ (Nat.le_refl _)
  rw [hlen] at this
  have hsz : l.toArray.size = l.length := by simp
  rw [hsz]
  refine wpAny_imp ?_ _ _ _ _ (wpAny_of_T _ _ _ _ this)
  rintro e a' w' ⟨g', im', s', h1, rfl, h3⟩
  exact ⟨g', im', s', h1, h3⟩
end
end Go.Proofs.Ytjijkdhjfanpaaa
