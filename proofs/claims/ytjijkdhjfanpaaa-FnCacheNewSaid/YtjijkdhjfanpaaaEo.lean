/- The engine, part o: the row: arguments that came in are read as abstract values; a law's contract becomes the row's statement. -/
import Derived.Test.YtjijkdhjfanpaaaEn
import Derived.ProofKit
import Derived.Deep.Slices
import Derived.Below
import Derived.ChangeSame
namespace Go.Proofs.Ytjijkdhjfanpaaa
open Go.ChangeShapes Go.WideShapes Go.ChangeAt Go.RowKit Go.Deep

mutual
/-- The cells of one value of a type, as it came in. -/
inductive TyC (te : TE) : Nat → List CV → Prop
  | int {t sz b' : Nat} {zs : List CV} {k : IntKind} {n : Int} : look t te = some ⟨.int k, sz, b', zs⟩ → (Lit.int k n).wf = true → TyC te t [.int k n]
  | bool {t sz b' : Nat} {zs : List CV} {b : Bool} : look t te = some ⟨.bool, sz, b', zs⟩ → TyC te t [.bool b]
  | slice {t e n sz b' : Nat} {zs xs : List CV} : look t te = some ⟨.slice e, sz, b', zs⟩ → n ≤ maxLen → TyR te e n xs → TyC te t [.rd 1 n xs]
  | struct {t sz b' : Nat} {fs : List (Nat × Nat)} {zs xs : List CV} : look t te = some ⟨.struct fs, sz, b', zs⟩ → TyF te fs xs → TyC te t xs
inductive TyR (te : TE) : Nat → Nat → List CV → Prop
  | nil {e : Nat} : TyR te e 0 []
  | cons {e n : Nat} {xs ys : List CV} : TyC te e xs → TyR te e n ys → TyR te e (n + 1) (xs ++ ys)
inductive TyF (te : TE) : List (Nat × Nat) → List CV → Prop
  | nil : TyF te [] []
  | cons {o f : Nat} {fs : List (Nat × Nat)} {xs ys : List CV} : TyC te f xs → TyF te fs ys → TyF te ((o, f) :: fs) (xs ++ ys)
end

/-- The fields lie one behind the other. -/
def packed (te : TE) : List (Nat × Nat) → Nat → Nat → Bool
  | [], o, sz => o == sz
  | (o', f) :: fs, o, sz => o' == o && match look f te with | some inf => packed te fs (o + inf.sz) sz | none => false
def sup (te : TE) : Nat → Nat → Bool
  | 0, _ => false
  | k + 1, t => match look t te with
    | some ⟨.int _, _, _, _⟩ | some ⟨.bool, _, _, _⟩ => true
    | some ⟨.slice e, _, _, _⟩ => sup te k e
    | some ⟨.struct fs, sz, _, _⟩ => packed te fs 0 sz && fs.all fun f => sup te k f.2
    | _ => false

/-- What came in is only read: every old block, tag 1. -/
def oldIm (w : World) : Im := fun t b => t = 1 ∧ b < w.heap.size

section
variable {H : Type} {enc : TypeId × Value → H} {P : Program} {w : World} {te : TE}

theorem cellsOf_te (hte : teOk P te = true) {t : Nat} {inf : TInf} (hx : look t te = some inf) : P.cellsOf t = inf.sz := by
  obtain ⟨⟨i, z, h1, h2, _⟩, _⟩ := teOk_look hte hx
  simp [Program.cellsOf, h1, h2]

theorem und_int (hte : teOk P te = true) {t sz b' : Nat} {zs : List CV} {k : IntKind} (hx : look t te = some ⟨.int k, sz, b', zs⟩) : P.underlying t = some (.int k) := by
  have := und_of hte hx
  cases hp : P.underlying t with
  | none => rw [hp] at this; cases this
  | some d =>
    rw [hp] at this
    cases d <;> simp [TI.is] at this
    rw [this]
theorem und_bool (hte : teOk P te = true) {t sz b' : Nat} {zs : List CV} (hx : look t te = some ⟨.bool, sz, b', zs⟩) : P.underlying t = some .bool := by
  have := und_of hte hx
  cases hp : P.underlying t with
  | none => rw [hp] at this; cases this
  | some d =>
    rw [hp] at this
    cases d <;> simp [TI.is] at this
    rfl
theorem und_struct (hte : teOk P te = true) {t sz b' : Nat} {zs : List CV} {fs : List (Nat × Nat)} (hx : look t te = some ⟨.struct fs, sz, b', zs⟩) : ∃ fa : Array Field, P.underlying t = some (.struct fa) ∧ fs = fa.toList.map (fun f => (f.offset, f.type)) := by
  have := und_of hte hx
  cases hp : P.underlying t with
  | none => rw [hp] at this; cases this
  | some d =>
    rw [hp] at this
    cases d with
    | struct fa =>
      simp only [TI.is, Bool.and_eq_true, beq_iff_eq] at this
      exact ⟨fa, rfl, this.1⟩
    | _ => simp [TI.is] at this

theorem flds_reads {te : TE} (f : Nat → List Value → Option (DataW H × List MemPlace)) (hte : teOk P te = true) (cs : List Value)
    (hf : ∀ t cs x, (∃ k, sup te k t = true) → f t cs = some x → ∃ xs, TyC te t xs ∧ RHs (fun _ => none) (oldIm w) w (xs.map HV.c) cs []) :
    ∀ (fs : List (Nat × Nat)) (o : Nat), packed te fs o cs.length = true → (∀ p ∈ fs, ∃ k, sup te k p.2 = true) → (∀ p ∈ fs, ∃ x, f p.2 ((cs.drop p.1).take (P.cellsOf p.2)) = some x) → o ≤ cs.length →
      ∃ xs, TyF te fs xs ∧ RHs (fun _ => none) (oldIm w) w (xs.map HV.c) (cs.drop o) []
  | [], o, hp, _, _, _ => by
    simp only [packed, beq_iff_eq] at hp
    exact ⟨[], .nil, by rw [hp]; simp [RHs]⟩
  | (o', t) :: fs, o, hp, hs, hx, ho => by
    simp only [packed, Bool.and_eq_true, beq_iff_eq] at hp
    obtain ⟨rfl, hp⟩ := hp
    split at hp
    · rename_i inf hl
      obtain ⟨x, hx0⟩ := hx (o', t) (by simp)
      obtain ⟨xs, h1, h2⟩ := hf _ _ _ (hs (o', t) (by simp)) hx0
      rw [cellsOf_te hte hl] at h2
      have hlen : ∀ (fs : List (Nat × Nat)) (o sz : Nat), packed te fs o sz = true → o ≤ sz := by
        intro fs
        induction fs with
        | nil => intro o sz h; simp only [packed, beq_iff_eq] at h; omega
        | cons a fs ih =>
          intro o sz h
          obtain ⟨a1, a2⟩ := a
          simp only [packed, Bool.and_eq_true] at h
          obtain ⟨_, h⟩ := h
          split at h
          · have := ih _ _ h; omega
          · cases h
      have hle := hlen _ _ _ hp
      obtain ⟨ys, h3, h4⟩ := flds_reads f hte cs hf fs (o' + inf.sz) hp (fun p hp => hs p (List.mem_cons_of_mem _ hp)) (fun p hp => hx p (List.mem_cons_of_mem _ hp)) hle
      refine ⟨xs ++ ys, .cons h1 h3, ?_⟩
      have := RHs_append _ _ _ _ _ _ h2 h4
      rw [List.map_append]
      have e : cs.drop o' = (cs.drop o').take inf.sz ++ cs.drop (o' + inf.sz) := by
        rw [← List.drop_drop, List.take_append_drop]
      rw [e]
      exact this
    · cases hp

theorem reads (hte : teOk P te = true) : ∀ (k t fuel : Nat) (cs : List Value) (x : DataW H × List MemPlace), sup te k t = true → DataW.trod enc P w 0 (fun _ => true) true fuel t cs = some x →
    ∃ xs, TyC te t xs ∧ RHs (fun _ => none) (oldIm w) w (xs.map HV.c) cs []
  | 0, t, fuel, cs, x, hs, _ => by simp [sup] at hs
  | k + 1, t, fuel, cs, x, hs, h => by
    simp only [sup] at hs
    split at hs
    · rename_i hl
      obtain ⟨n, rfl, _, hw⟩ := DataW.trod_int (und_int hte hl) h
      exact ⟨_, .int hl hw, _, [], [], [], rfl, rfl, ⟨rfl, rfl⟩, rfl, rfl⟩
    · rename_i hl
      obtain ⟨b, rfl, _⟩ := DataW.trod_bool (und_bool hte hl) h
      exact ⟨[.bool b], .bool hl, _, [], [], [], rfl, rfl, ⟨rfl, rfl⟩, rfl, rfl⟩
    · rename_i e _ _ _ hl
      have hu : P.underlying t = some (.slice e) := slice_und hte hl
      rcases open_slice hu h with ⟨rfl, _⟩ | ⟨a, len, cap, m, n, D, Pl, rfl, _, hlc, hcm, hm, _, hi⟩
      · exact ⟨[.rd 1 0 []], .slice hl (Nat.zero_le _) .nil, _, [], [], [], rfl, rfl, by simp only [RH, R]; exact ⟨trivial, none, 0, rfl, Nat.le_refl _, Nat.zero_le _, .inl trivial⟩, rfl, rfl⟩
      · simp only [if_true] at hm
        have hmc : m = cap := hm
        clear hm
        have key : ∀ (j i : Nat), i + j ≤ len → ∃ xs, TyR te e j xs ∧ xs.length = j * P.cellsOf e ∧ (xs = [] ∨ a.block < w.heap.size ∧ RL (oldIm w) w a.block xs (a.off + i * P.cellsOf e) []) := by
          intro j
          induction j with
          | zero => exact fun i _ => ⟨[], .nil, by simp, .inl (Eq.refl _)⟩
          | succ j ih =>
            intro i hij
            obtain ⟨ys, hy1, hyl, hy2⟩ := ih (i + 1) (by omega)
            obtain ⟨cs', hc, ht⟩ := hi i (by omega)
            obtain ⟨xs, hx1, hx2⟩ := reads hte k e n cs' _ hs ht
            obtain ⟨_, hcl, hat⟩ := World.cells?_some hc
            have hxl := RHs_length _ _ _ hx2
            simp only [List.length_map] at hxl
            refine ⟨xs ++ ys, .cons hx1 hy1, by rw [List.length_append, Nat.succ_mul]; omega, ?_⟩
            cases hxs : xs with
            | nil =>
              subst hxs
              simp only [List.length_nil] at hxl
              have : P.cellsOf e = 0 := by omega
              refine .inl ?_
              rw [this] at hyl
              simpa using hyl
            | cons c xs' =>
              rw [hxs] at hxl hx2
              have hpos : 0 < cs'.length := by simp at hxl; omega
              have hplace : ∀ d, d < cs'.length → w.cell? ⟨a.block, a.off + i * P.cellsOf e + d, none⟩ = cs'[d]? := by
                intro d hd
                have h0 := hat d (by omega)
                rw [← h0]
                congr 1
                unfold Addr.add
                obtain ⟨b, o, sp⟩ := a
                split
                · split
                  · rename_i e1 e2
                    have h1 := hat 0 (by omega)
                    rw [List.getElem?_eq_getElem hpos] at h1
                    have h2 := World.cell?_spot h1
                    have : sp = none := by simpa [Addr.add, e2] using h2
                    subst this; simp [e1, e2]
                  · simp
                · simp
                  split <;> simp_all
              have hv := hplace 0 hpos
              rw [List.getElem?_eq_getElem hpos] at hv
              have hb : a.block < w.heap.size := by
                cases hh : w.heap[a.block]? with
                | none => simp [World.cell?, hh] at hv
                | some _ => exact (Array.getElem?_eq_some_iff.1 hh).1
              refine .inr ⟨hb, ?_⟩
              have hL : RL (oldIm w) w a.block (c :: xs') (a.off + i * P.cellsOf e) [] := RHs_RL _ _ _ _ hx2 (fun j u hu => by
                have hj : j < cs'.length := (List.getElem?_eq_some_iff.1 hu).1
                rw [hplace j hj, hu])
              refine RL_append (c :: xs') ys (a.off + i * P.cellsOf e) [] [] hL ?_
              rcases hy2 with h0 | ⟨h2, h3⟩
              · rw [h0]; simp only [RL]
              · have e1 : a.off + i * P.cellsOf e + (c :: xs').length = a.off + (i + 1) * P.cellsOf e := by rw [Nat.succ_mul]; simp at hxl ⊢; omega
                rw [e1]; exact h3
        obtain ⟨xs, h1, hl', h2⟩ := key len 0 (by omega)
        refine ⟨_, .slice hl (by omega) h1, _, [], [], [], rfl, rfl, ?_, rfl, rfl⟩
        simp only [RH, R]
        refine ⟨trivial, _, cap, rfl, hlc, hcm, ?_⟩
        rcases h2 with h2 | ⟨h3, h4⟩
        · exact .inl h2
        · by_cases hx0 : xs = []
          · exact .inl hx0
          · refine .inr ⟨a.block, a.off, ?_, ⟨rfl, h3⟩, by simpa using h4⟩
            have hxp : 0 < xs.length := List.length_pos_iff.2 hx0
            have hlp : 0 < len := by rcases Nat.eq_zero_or_pos len with h | h; · simp [h] at hl'; exact absurd hl' hx0
                                     · exact h
            have hcp : 0 < P.cellsOf e := by rcases Nat.eq_zero_or_pos (P.cellsOf e) with h | h; · simp [h] at hl'; exact absurd hl' hx0
                                             · exact h
            obtain ⟨cs', hc, _⟩ := hi 0 (by omega)
            obtain ⟨_, hcl, hat⟩ := World.cells?_some hc
            have h1 := hat 0 hcp
            rw [List.getElem?_eq_getElem (by omega)] at h1
            have h2 := World.cell?_spot h1
            obtain ⟨b, o, sp⟩ := a
            have : sp = none := by simpa [Addr.add] using h2
            rw [this]
    · rename_i fs sz _ _ hl
      simp only [Bool.and_eq_true, List.all_eq_true] at hs
      obtain ⟨hp, hk⟩ := hs
      obtain ⟨fa, hu, hfs⟩ := und_struct hte hl
      obtain ⟨ys, n, _, _, hlen, hyl, hg⟩ := DataW.trod_struct hu h
      rw [cellsOf_te hte hl] at hlen
      simp only at hlen
      obtain ⟨xs, h1, h2⟩ := flds_reads (P := P) (fun t cs => if sup te k t = true then DataW.trod enc P w 0 (fun _ => true) true n t cs else none) hte cs
        (fun t cs x _ hx => by
          split at hx
          · rename_i hk'; exact reads hte k t n cs x hk' hx
          · cases hx) fs 0 (by rw [hlen]; exact hp) (fun p hp => ⟨k, hk p hp⟩)
        (fun p hp => by
          simp only [hk p hp, if_true]
          rw [hfs, List.mem_map] at hp
          obtain ⟨f, hf, rfl⟩ := hp
          obtain ⟨i, hi, hf'⟩ := List.getElem_of_mem hf
          have hi' : i < fa.size := by simpa using hi
          have := hg i f (by rw [Array.getElem?_eq_getElem hi']; simpa using hf')
          exact ⟨_, this.trans (List.getElem?_eq_getElem (by omega))⟩) (Nat.zero_le _)
      exact ⟨xs, .struct hl h1, by simpa using h2⟩
    · cases hs
end

/-! ### all arguments -/
/-- An argument's abstract value, of its type's cells. -/
inductive TyA (te : TE) : Nat → AV → Prop
  | one {t : Nat} {inf : TInf} {x : CV} : look t te = some inf → inf.d.isAgg = false → TyC te t [x] → TyA te t (.h (.c x))
  | agg {t : Nat} {inf : TInf} {xs : List CV} : look t te = some inf → inf.d.isAgg = true → TyC te t xs → TyA te t (.agg (xs.map HV.c))
inductive TyAs (te : TE) : List Nat → List AV → Prop
  | nil : TyAs te [] []
  | cons {t : Nat} {ts : List Nat} {x : AV} {xs : List AV} : TyA te t x → TyAs te ts xs → TyAs te (t :: ts) (x :: xs)

section
variable {H : Type} {enc : TypeId × Value → H} {P : Program} {w : World} {te : TE}
theorem TyC_one {t : Nat} {inf : TInf} {xs : List CV} (h : TyC te t xs) (hl : look t te = some inf) (ha : inf.d.isAgg = false) : ∃ x, xs = [x] := by
  cases h with
  | int => exact ⟨_, rfl⟩
  | bool => exact ⟨_, rfl⟩
  | slice => exact ⟨_, rfl⟩
  | struct hl' _ => rw [hl] at hl'; injection hl' with e; subst e; simp [TI.isAgg] at ha

theorem okWide_bool' {r : Reach} {b0 t : Nat} {v : Value} (ht : P.underlying t = some .bool) (h : Value.okWide P w r b0 t v) : ∃ b, v = .bool b := by
  simp only [Value.okWide, ht, Cell.okWide] at h
  cases v <;> simp_all [Cell.ok]
theorem sup_look {k t : Nat} (h : sup te k t = true) : ∃ inf, look t te = some inf ∧ ∀ n e, inf.d ≠ .array n e := by
  cases k with
  | zero => simp [sup] at h
  | succ k =>
    simp only [sup] at h
    split at h
    · rename_i hl; exact ⟨_, hl, fun n e h => by cases h⟩
    · rename_i hl; exact ⟨_, hl, fun n e h => by cases h⟩
    · rename_i hl; exact ⟨_, hl, fun n e h => by cases h⟩
    · rename_i hl; exact ⟨_, hl, fun n e h => by cases h⟩
    · cases h
theorem readsAll (hte : teOk P te = true) {base : Nat} : ∀ (ts : List Nat) (vs : List Value) (ds : List (DataW H)) (ps : List MemPlace), ts.all (sup te 9) = true → DataW.TrodAll enc P w 0 (fun _ => true) true ts vs ds ps →
    (∀ (j : Nat) t v, ts[j]? = some t → vs[j]? = some v → Value.okWide P w .any base t v) → ∃ xs, TyAs te ts xs ∧ RAs (fun _ => none) (oldIm w) w xs vs []
  | [], vs, ds, ps, _, h, _ => by
    obtain ⟨rfl, _, _⟩ := trodAll_nil h
    exact ⟨[], .nil, by simp [RAs]⟩
  | t :: ts, vs, ds, ps, hs, h, hv => by
    obtain ⟨v, vs', d, ds', p, q, rfl, _, _, h1, h2⟩ := trodAll_cons h
    simp only [List.all_cons, Bool.and_eq_true] at hs
    obtain ⟨ys, h3, h4⟩ := readsAll hte ts vs' ds' q hs.2 h2 (fun j t v a b => hv (j + 1) t v (by simpa using a) (by simpa using b))
    obtain ⟨fuel, hf⟩ := h1
    obtain ⟨xs, h5, h6⟩ := reads hte 9 t fuel v.cells.toList (d, p) hs.1 hf
    have hok := hv 0 t v rfl rfl
    have hx : ∃ x, TyA te t x ∧ RA (fun _ => none) (oldIm w) w x v [] := by
      obtain ⟨inf, hl, hna⟩ := sup_look hs.1
      cases ha : inf.d.isAgg with
      | true =>
        have : ∃ cs : Array Value, v = .agg cs := by
          obtain ⟨d', sz, b', zs⟩ := inf
          cases d' with
          | struct fs =>
            obtain ⟨fa, hu, _⟩ := und_struct hte hl
            obtain ⟨cs, e, _⟩ := okWide_struct hu hok
            exact ⟨cs, e⟩
          | array n e => exact absurd rfl (hna n e)
          | _ => simp [TI.isAgg] at ha
        obtain ⟨cs, rfl⟩ := this
        refine ⟨_, .agg hl ha h5, cs.toList, by simp, ?_⟩
        simpa [Value.cells] using h6
      | false =>
        obtain ⟨x, rfl⟩ := TyC_one h5 hl ha
        obtain ⟨u, vs1, f1, f2, e1, e2, h7, h8⟩ := h6
        obtain ⟨rfl, _⟩ := h8
        have hv1 : v = u := by
          obtain ⟨d', sz, b', zs⟩ := inf
          cases d' with
          | int k => obtain ⟨n, rfl⟩ := okWide_int (und_int hte hl) hok; simp [Value.cells] at e1; exact e1
          | bool =>
            obtain ⟨n, rfl⟩ := okWide_bool' (und_bool hte hl) hok
            simp [Value.cells] at e1; exact e1
          | slice e => obtain ⟨a, len, cap, rfl⟩ := okWide_slice (slice_und hte hl) hok; simp [Value.cells] at e1; exact e1
          | _ => simp [TI.isAgg] at ha
        subst hv1
        have : f1 = [] := by cases f1 <;> simp at e2 ⊢
        subst this
        exact ⟨_, .one hl ha h5, by simpa only [RA] using h7⟩
    obtain ⟨x, h7, h8⟩ := hx
    exact ⟨x :: ys, .cons h7 h3, by simp only [RAs]; exact ⟨v, vs', [], [], rfl, rfl, h8, h4⟩⟩

theorem rereadAll (hl : laidOutB P = true) {W W' : World} (hb : Below W.heap.size W W') {sp : Nat → Bool} : ∀ (ts : List Nat) (vs : List Value) (ds : List (DataW H)) (ps : List MemPlace), (ts.all fun t => P.readableRec t && decide (t < P.types.size)) = true →
    DataW.TrodAll enc P W 0 (fun _ => true) true ts vs ds ps → (∀ p ∈ ps, p.block < W.heap.size) → (∀ p ∈ ps, sp p.block = true) → DataW.TrodAll enc P W' 0 sp true ts vs ds ps
  | [], vs, ds, ps, _, h, _, _ => by
    obtain ⟨rfl, rfl, rfl⟩ := trodAll_nil h
    exact rfl
  | t :: ts, vs, ds, ps, hr, h, hlt, hsp => by
    obtain ⟨v, vs', d, ds', p, q, rfl, rfl, rfl, h1, h2⟩ := trodAll_cons h
    simp only [List.all_cons, Bool.and_eq_true, decide_eq_true_eq] at hr
    exact ⟨p, q, WideElems.Trod_stays hl hr.1.1 hr.1.2 h1 (fun x hx => hb.same (hlt x (List.mem_append_left _ hx))) (fun x hx => hsp x (List.mem_append_left _ hx)),
      rereadAll hl hb ts vs' ds' q (by simpa using hr.2) h2 (fun x hx => hlt x (List.mem_append_right _ hx)) (fun x hx => hsp x (List.mem_append_right _ hx)), rfl⟩

theorem post_of_below {f : Func} {s : ChangeSpec} {apart fresh handsOn again : Bool} {W W' : World} {args : Array Value} {v : Value} {ds gs : List (DataW H)} {before pa pv : List MemPlace}
    (hW : DataW.Whole enc P f.params.toList s.vars apart W args.toList ds gs before)
    (hres : ∀ (b : Nat) (sp : Nat → Bool) (hd : Bool), DataW.TrodAll enc P W' b sp hd f.resultTypes.toList (v.resultList f.resultTypes.size) (s.fn H (ds ++ gs)).results [])
    (hargs : ∀ sp : Nat → Bool, (∀ p ∈ before, sp p.block = true) → DataW.TrodAll enc P W' 0 sp true f.params.toList args.toList (s.fn H (ds ++ gs)).args pa)
    (hvars : ∀ sp : Nat → Bool, (∀ p ∈ before, sp p.block = true) → DataW.TrodVars enc P W' sp s.vars (s.fn H (ds ++ gs)).vars pv)
    (hps : before = pa ++ pv) (hb : Below W.heap.size W W')
    (hok : ∀ (j : Nat) (t : TypeId) (r : Value), f.resultTypes[j]? = some t → (v.resultList f.resultTypes.size)[j]? = some r → Value.okWide P W' .any 0 t r) :
    s.post enc P f apart fresh handsOn again W args v W' := by
  have hlt : ∀ p ∈ before, p.block < W.heap.size := fun p hp => hW.lt p hp
  have hold : ∀ p ∈ before, (fun b => decide (b < W.heap.size)) p.block = true := fun p hp => by simpa using hlt p hp
  refine ⟨ds, gs, before, [], pa, pv, hW, hres _ _ _, hargs _ hold, hvars _ hold, World.keptBut_mono (fun p hp => ⟨hp, ?_⟩) (hb.frame (· ∈ before)), fun _ => ?_⟩
  · rw [hps, List.mem_append] at hp
    exact Or.inr hp
  · obtain ⟨_, _, _, _, _, hz, hn⟩ := hW
    refine ⟨hok, _, _, ([] ++ pa) ++ pv, ⟨[] ++ pa, pv, trodAll_append (hargs _ (fun _ _ => rfl)) (hres _ _ _), hvars _ (fun _ _ => rfl), rfl, ?_, ?_⟩, ?_⟩
    · intro b off hp
      have hin : MemPlace.cell b off ∈ before := by rw [hps]; simpa using hp
      rw [hb.frozen (hlt _ hin)]
      exact hz b off hin
    · intro ha
      have := hn ha
      rw [hps] at this
      simpa using this
    · intro p hp _
      rw [hps]
      simpa using hp

/-- **A law's contract is the row.** -/
theorem law_lifted {C : Checked} {te : TE} (hte : teOk C.prog te = true) (own : ownKnob C.prog.godebug = none) (laid : laidOutB C.prog = true) {f : FuncId} {fn : Func} {s : ChangeSpec} {ts : List Nat} {tb : Nat} {rt : List Nat} {apart fresh handsOn again : Bool}
    (os : Os) (started : os.Started) (enc : TypeId × Value → H) (noInit : C.prog.inits.idxOf? f = none) (hfn : C.prog.funcs[f]? = some fn) (hp : fn.params.toList = ts) (hr : fn.resultTypes = #[tb]) (hub : C.prog.underlying tb = some .bool)
    (hsup : ts.all (sup te 9) = true) (hrd : (ts.all fun t => C.prog.readableRec t && decide (t < C.prog.types.size)) = true) (hvars : s.vars = [])
    (hsp : ∀ ds : List (DataW H), ds.length = ts.length → s.fn H ds = { results := [.lit (.bool true)], args := ds })
    (witness : ∃ (w : World) (tape : Tape) (i : Input), w.os = os ∧ (w.forCall tape i).Shaped C.prog ∧ i.vars = [] ∧ Input.okWide C.prog (w.forCall tape i) .any w.heap.size f i ∧
      s.pre6 enc C.prog fn [] apart (w.forCall tape i).memory i.args ∧ (({} : Assume)).holds C.prog (lone (Frame.enter C.prog f i.args .normal) [] (w.forCall tape i)))
    (law : ∀ xs, TyAs te ts xs → AC C.prog f xs [] rt (fun r h => h = [] ∧ r = .h (.c (.bool true)))) :
    ReturnsInHanded {} C os f .any (s.pre6 enc C.prog fn [] apart) (s.post enc C.prog fn apart fresh handsOn again) := by
  refine returnsInHanded_of_change own started noInit hfn witness ?_
  intro W base args ds gs before hval hW _ _
  have hW' := hW
  obtain ⟨p, q, hA, hV, rfl, hfz, hnd⟩ := hW
  rw [hvars] at hV
  obtain ⟨rfl, rfl⟩ : gs = [] ∧ q = [] := by
    cases gs with
    | nil => exact ⟨rfl, hV⟩
    | cons => cases hV
  rw [hp] at hA
  obtain ⟨xs, hxs, hra⟩ := readsAll hte ts args.toList ds p hsup hA (fun j t v h1 h2 => hval j t v (by rw [← Array.getElem?_toList, hp]; exact h1) (by rw [← Array.getElem?_toList]; exact h2))
  obtain ⟨_, hac⟩ := law xs hxs
  have := hac W (fun _ => none) (oldIm W) args.toList [] hra rfl List.nodup_nil (fun _ h => by cases h) (fun t b h => h.2) (fun _ _ => rfl) (fun _ _ _ h => by cases h)
  rw [Array.toArray_toList] at this
  refine this.mono fun e W' ⟨r, hout, v, g', im', fps', ⟨h1, h2⟩, h3, h4⟩ => ?_
  subst h1; subst h2; subst h3
  have hv := RA_bool h4.res
  subst hv
  have hb : Below W.heap.size W W' := ⟨h4.kp.os, h4.kp.tape, h4.kp.output, h4.kp.size, fun k hk => h4.kp.block k hk (by simp)⟩
  have hlt : ∀ x ∈ p, x.block < W.heap.size := fun x hx => hW'.lt x (by simpa using hx)
  have hlen : ds.length = ts.length := by
    have : ∀ (ts : List Nat) (vs : List Value) (ds : List (DataW H)) (p : List MemPlace), DataW.TrodAll enc C.prog W 0 (fun _ => true) true ts vs ds p → ds.length = ts.length := by
      intro ts
      induction ts with
      | nil => intro vs ds p h; obtain ⟨_, rfl, _⟩ := trodAll_nil h; rfl
      | cons t ts ih => intro vs ds p h; obtain ⟨_, _, _, _, _, _, _, rfl, _, _, h⟩ := trodAll_cons h; simp [ih _ _ _ h]
    exact this _ _ _ _ hA
  have hs := hsp ds hlen
  refine ⟨_, rfl, post_of_below (pa := p) (pv := []) hW' ?_ ?_ ?_ rfl hb ?_⟩
  · intro b sp hd
    rw [List.append_nil, hs, hr]
    exact trodAll_mk1 (shut_bool hub _)
  · intro sp hsp'
    rw [List.append_nil, hs, hp]
    exact rereadAll laid hb ts args.toList ds p hrd hA hlt (fun x hx => hsp' x (by simpa using hx))
  · intro sp _
    rw [List.append_nil, hs, hvars]
    rfl
  · exact ok_one hr rfl (okWide_bool_mk hub _)
end
end Go.Proofs.Ytjijkdhjfanpaaa
