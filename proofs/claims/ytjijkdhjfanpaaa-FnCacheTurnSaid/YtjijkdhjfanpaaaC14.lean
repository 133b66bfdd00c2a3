import Derived.Shelf.Spec.SlicesInsertGrow
import Derived.Test.YtjijkdhjfanpaaaT2
/- slices.Insert of one number into a row of numbers: the kit's runs, told as a contract. -/
namespace Go.Proofs.Ytjijkdhjfanpaaa
open Go.RowKit Go.Shelf

def rho21 : Ren := ⟨fun n => if n = 21 then 60 else if n = 27 then 68 else if n = 28 then 69 else if n = 35 then 72 else if n = 39 then 73 else n, fun n => if n = 22 then 32 else n, fun n => n⟩
theorem lays21 : Lays2.n21 Try.prog rho21 := by
  have t0 : Try.prog.underlying 0 = some (TypeDesc.tuple #[]) := by kernel_rfl
  have t3 : Try.prog.underlying 3 = some (TypeDesc.int IntKind.i64) := by kernel_rfl
  have t4 : Try.prog.underlying 4 = some TypeDesc.bool := by kernel_rfl
  have t22 : Try.prog.underlying 32 = some (TypeDesc.slice 3) := by kernel_rfl
  have e21 : Try.f60 = Body2.n21 rho21 := by kernel_rfl
  have e27 : Try.f68 = Body2.n27 rho21 := by kernel_rfl
  have e28 : Try.f69 = Body2.n28 rho21 := by kernel_rfl
  have e35 : Try.f72 = Body2.n35 rho21 := by kernel_rfl
  have e39 : Try.f73 = Body2.n39 rho21 := by kernel_rfl
  have ag : ∀ (t : TypeId) (d : TypeDesc), Try.prog.underlying t = some d → (match d with | .struct _ | .array _ _ => true | _ => false) = false → ∀ w, (isAgg t).run Try.prog w = .ok false w := by
    intro t d h hd w
    cases d <;> simp [isAgg, run_underlying h] at hd ⊢
  have sz : ∀ (t : TypeId) (i : TypeInfo), Try.prog.info? t = some i → ∀ w, (sizeOf t).run Try.prog w = .ok i.size w := by
    intro t i h w
    simp [sizeOf, typeInfo, h]
  have zv : ∀ (t : TypeId) (i : TypeInfo) (v : Value), Try.prog.info? t = some i → i.zero = some v → ∀ w, (zeroValue t).run Try.prog w = .ok v w := by
    intro t i v h hv w
    simp [zeroValue, typeInfo, h, hv]
  have key : ∀ (t : TypeId) (v : Value) (b : Nat), (Try.prog.info? t).map (fun i => (i.zero, i.size, i.bytes)) = some (some v, 1, b) → (∀ w, (sizeOf t).run Try.prog w = .ok 1 w) ∧ (∀ w, (zeroValue t).run Try.prog w = .ok v w) := by
    intro t v b h
    cases hi : Try.prog.info? t with
    | none => rw [hi] at h; cases h
    | some i =>
      rw [hi] at h
      simp only [Option.map_some, Option.some.injEq, Prod.mk.injEq] at h
      have h1 := sz t i hi
      rw [h.2.1] at h1
      exact ⟨h1, zv t i v hi h.1⟩
  have k0 := key 0 (Value.tuple #[]) 0 (by kernel_rfl)
  have k3 := key 3 (Value.int IntKind.i64 0) 8 (by kernel_rfl)
  have k4 := key 4 (Value.bool false) 1 (by kernel_rfl)
  have k22 := key 32 (Value.slice none 0 0) 24 (by kernel_rfl)
  exact ⟨mixed, Try.func60.trans (congrArg some e21), Try.func68.trans (congrArg some e27), Try.func69.trans (congrArg some e28), Try.func72.trans (congrArg some e35), Try.func73.trans (congrArg some e39),
    t0, ag _ _ t0 rfl, k0.1, k0.2, t3, ag _ _ t3 rfl, k3.1, k3.2, t4, ag _ _ t4 rfl, k4.1, k4.2, t22, ag _ _ t22 rfl, k22.1, k22.2, by kernel_rfl⟩
theorem setCells_row (b : Nat) : ∀ (vs : List Value) (o : Nat) (w : World) (cur : Array Value) (ty : TypeId), w.heap[b]? = some (.cells cur ty (0, 0)) →
    ∃ cur' : Array Value, (w.setCells b o vs).heap[b]? = some (.cells cur' ty (0, 0)) ∧ cur'.size = cur.size ∧ (∀ c, c ≠ b → (w.setCells b o vs).heap[c]? = w.heap[c]?) ∧ (w.setCells b o vs).heap.size = w.heap.size ∧
      (w.setCells b o vs).os = w.os ∧ (w.setCells b o vs).tape = w.tape ∧ (w.setCells b o vs).output = w.output
  | [], _, w, cur, ty, h => ⟨cur, h, rfl, fun _ _ => rfl, rfl, rfl, rfl, rfl⟩
  | v :: r, o, w, cur, ty, h => by
    have h1 : (w.setCell ⟨b, o, none⟩ v).heap[b]? = some (.cells (cur.setIfInBounds o v) ty (0, 0)) := by
      simp [World.setCell, Array.getElem?_modify, h]
    obtain ⟨cur', h2, h3, h4, h5, h6, h7, h8⟩ := setCells_row b r (o + 1) _ _ ty h1
    refine ⟨cur', h2, by rw [h3]; simp, fun c hc => (h4 c hc).trans ?_, h5.trans (by simp [World.setCell]), h6, h7, h8⟩
    simp [World.setCell, Array.getElem?_modify, Ne.symm hc]
/-- From w to w' the row at b alone has changed, not its size. -/
structure Put (w w' : World) (b : Nat) (ty : TypeId) (k : Nat) : Prop where
  os : w'.os = w.os
  tape : w'.tape = w.tape
  output : w'.output = w.output
  size : w'.heap.size = w.heap.size
  same : ∀ c, c ≠ b → w'.heap[c]? = w.heap[c]?
  row : ∃ cur : Array Value, w'.heap[b]? = some (.cells cur ty (0, 0)) ∧ cur.size = k
theorem Put.set {w w' : World} {b : Nat} {ty : TypeId} {k : Nat} (h : Put w w' b ty k) (o : Nat) (vs : List Value) : Put w (w'.setCells b o vs) b ty k := by
  obtain ⟨cur, h1, h2⟩ := h.row
  obtain ⟨cur', h3, h4, h5, h6, h7, h8, h9⟩ := setCells_row b vs o w' cur ty h1
  exact ⟨h7.trans h.os, h8.trans h.tape, h9.trans h.output, h6.trans h.size, fun c hc => (h5 c hc).trans (h.same c hc), cur', h3, h4.trans h2⟩
theorem Put.drew {w w' : World} {b : Nat} {ty : TypeId} {k : Nat} (h : Put w w' b ty k) : Put w w'.drew b ty k := ⟨h.os, h.tape, h.output, h.size, h.same, h.row⟩
theorem Put.start {w : World} {b : Nat} {ty : TypeId} {cur : Array Value} (h : w.heap[b]? = some (.cells cur ty (0, 0))) : Put w w b ty cur.size := ⟨rfl, rfl, rfl, rfl, fun _ _ => rfl, cur, h, rfl⟩
theorem RL_int {im : Im} {w : World} {b : Nat} : ∀ (x : List Int) (o : Nat) (fp : List Nat), RL im w b (ints x) o fp → fp = [] ∧ ∀ j v, x[j]? = some v → w.cell? ⟨b, o + j, none⟩ = some (.int .i64 v)
  | [], o, fp, h => ⟨by simpa [ints, rows, RL] using h, by simp⟩
  | y :: r, o, fp, h => by
    change RL im w b (CV.int .i64 y :: ints r) o fp at h
    simp only [RL, R] at h
    obtain ⟨u, f1, f2, rfl, h1, ⟨rfl, rfl⟩, h2⟩ := h
    obtain ⟨h3, h4⟩ := RL_int r (o + 1) f2 h2
    refine ⟨by simp [h3], fun j v hj => ?_⟩
    cases j with
    | zero => simp at hj; subst hj; exact h1
    | succ j => have := h4 j v (by simpa using hj); rwa [Nat.add_assoc, Nat.add_comm 1] at this
theorem int_RL {im : Im} {w : World} {b : Nat} : ∀ (x : List Int) (o : Nat), (∀ j v, x[j]? = some v → w.cell? ⟨b, o + j, none⟩ = some (.int .i64 v)) → RL im w b (ints x) o []
  | [], o, _ => by simp [ints, rows, RL]
  | y :: r, o, h => by
    change RL im w b (CV.int .i64 y :: ints r) o []
    simp only [RL, R]
    exact ⟨_, [], [], rfl, h 0 y rfl, ⟨rfl, rfl⟩, int_RL r (o + 1) fun j v hj => by have := h (j + 1) v (by simpa using hj); rwa [Nat.add_assoc, Nat.add_comm 1]⟩
/-- The numbers as values. -/
def ivs (x : List Int) : List Value := x.map (Value.int .i64)
theorem ivs_get {x : List Int} {j : Nat} {v : Value} (h : (ivs x)[j]? = some v) : ∃ a, x[j]? = some a ∧ v = .int .i64 a := by
  simp only [ivs, List.getElem?_map, Option.map_eq_some_iff] at h
  obtain ⟨a, h1, h2⟩ := h
  exact ⟨a, h1, h2.symm⟩
theorem ivs_one (x : List Int) : ∀ v ∈ ivs x, v.oneCell' = true := by
  intro v hv
  simp only [ivs, List.mem_map] at hv
  obtain ⟨a, _, rfl⟩ := hv
  rfl
def insI (x : List Int) (key : Int) (i : Nat) : List Int := x.take i ++ key :: x.drop i
def InsPost (x : List Int) (key : Int) (i : Nat) (r : AV) (h : List Ob) : Prop :=
  (r = .h (.sl 0 0 (x.length + 1)) ∧ h = [.arr 3 1 (ints (insI x key i)), .arr 3 1 (ints [key])]) ∨
  (r = .h (.sl 2 0 (x.length + 1)) ∧ h = [.arr 3 1 (ints x), .arr 3 1 (ints [key]), .arr 3 1 (ints (insI x key i))])
/-- What stands after the row is shifted and the number put in. -/
theorem shift_cells {w : World} {b : Nat} {cur : Array Value} {ty : TypeId} (hb : w.heap[b]? = some (.cells cur ty (0, 0))) (x : List Int) (key : Int) (i : Nat) (hi : i ≤ x.length) (hc : x.length < cur.size) (h : ∀ j v, j < i → x[j]? = some v → w.cell? ⟨b, j, none⟩ = some (.int .i64 v)) :
    ∀ j v, (insI x key i)[j]? = some v → ((w.setCells b (i + 1) (ivs (x.drop i))).setCells b i (ivs [key])).cell? ⟨b, j, none⟩ = some (.int .i64 v) ∧ ((w.setCells b i (ivs [key])).setCells b (i + 1) (ivs (x.drop i))).cell? ⟨b, j, none⟩ = some (.int .i64 v) := by
  have hs : ∀ (w : World) (cur : Array Value), w.heap[b]? = some (.cells cur ty (0, 0)) → ∀ k, k < cur.size → (w.cell? ⟨b, k, none⟩).isSome = true := fun w cur hb k hk => by rw [cell_of_row w b k cur ty (0, 0) hb, Array.getElem?_eq_getElem hk]; rfl
  have hl1 : (ivs (x.drop i)).length = x.length - i := by simp [ivs]
  have hl2 : (ivs [key]).length = 1 := rfl
  obtain ⟨cur1, q1, q2, _⟩ := setCells_row b (ivs (x.drop i)) (i + 1) w cur ty hb
  obtain ⟨cur2, p1, p2, _⟩ := setCells_row b (ivs [key]) i w cur ty hb
  intro j v hj
  by_cases h1 : j < i
  · rw [World.cell?_setCells_out b _ _ _ _ (fun _ _ => .inl h1), World.cell?_setCells_out b _ _ _ _ (fun _ _ => .inl (by show j < i + 1; omega)), World.cell?_setCells_out b _ _ _ _ (fun _ _ => .inl (by show j < i + 1; omega)), World.cell?_setCells_out b _ _ _ _ (fun _ _ => .inl h1)]
    have : x[j]? = some v := by
      simp only [insI] at hj
      rw [List.getElem?_append_left (by simp; omega), List.getElem?_take, if_pos h1] at hj
      exact hj
    exact ⟨h j v h1 this, h j v h1 this⟩
  · by_cases h2 : j = i
    · subst h2
      have hv : v = key := by
        simp only [insI] at hj
        rw [List.getElem?_append_right (by simp; omega)] at hj
        have : j - (x.take j).length = 0 := by simp; omega
        rw [this] at hj
        simpa using hj.symm
      subst hv
      have e1 := World.cell?_setCells_in b (ivs [v]) j (w.setCells b (j + 1) (ivs (x.drop j))) (fun k hk => hs _ _ q1 _ (by rw [hl2] at hk; omega)) 0 (by rw [hl2]; omega)
      have e2 := World.cell?_setCells_in b (ivs [v]) j w (fun k hk => hs _ _ hb _ (by rw [hl2] at hk; omega)) 0 (by rw [hl2]; omega)
      rw [World.cell?_setCells_out b _ _ (w.setCells b j (ivs [v])) _ (fun _ _ => .inl (by show j < j + 1; omega))]
      exact ⟨e1, e2⟩
    · have hv : (x.drop i)[j - (i + 1)]? = some v := by
        simp only [insI] at hj
        rw [List.getElem?_append_right (by simp; omega)] at hj
        have : j - (x.take i).length = j - (i + 1) + 1 := by simp; omega
        rw [this, List.getElem?_cons_succ] at hj
        exact hj
      have hlt : j - (i + 1) < (ivs (x.drop i)).length := by
        obtain ⟨hlt, _⟩ := List.getElem?_eq_some_iff.1 hv
        simpa [ivs] using hlt
      have hg : (ivs (x.drop i))[j - (i + 1)] = .int .i64 v := by
        have : (ivs (x.drop i))[j - (i + 1)]? = some (.int .i64 v) := by simp only [ivs, List.getElem?_map, hv]; rfl
        rw [List.getElem?_eq_getElem hlt] at this
        exact Option.some.inj this
      have e1 := World.cell?_setCells_in b (ivs (x.drop i)) (i + 1) w (fun k hk => hs _ _ hb _ (by rw [hl1] at hk; omega)) _ hlt
      have e2 := World.cell?_setCells_in b (ivs (x.drop i)) (i + 1) (w.setCells b i (ivs [key])) (fun k hk => hs _ _ p1 _ (by rw [hl1] at hk; omega)) _ hlt
      have ej : i + 1 + (j - (i + 1)) = j := by omega
      rw [ej, hg] at e1 e2
      rw [World.cell?_setCells_out b _ _ _ _ (fun _ _ => .inr (by show i + 1 ≤ j; omega))]
      exact ⟨e1, e2⟩
theorem back_room {rt : List Nat} {w w' : World} {im : Im} {g : Ga} {x' : List Int} {key : Int} {n b vb : Nat} {bi0 bi1 : BI} {curv : Array Value}
    (hg0 : g 0 = some bi0) (hg1 : g 1 = some bi1) (ha : bi0.a = some b) (ht : bi0.ty = 3) (he : bi0.e = 1) (hm : bi0.cap ≤ maxLen) (hb1 : bi1.a = some vb) (ht1 : bi1.ty = 3) (he1 : bi1.e = 1) (hvh : w.heap[vb]? = some (.cells curv 3)) (hvs : curv.size = bi1.cap * 1) (hvr : RL im w vb (ints [key]) 0 [])
    (hnd : [b, vb].Nodup) (hlt : ∀ c ∈ [b, vb], c < w.heap.size ∧ ∀ t, ¬ im t c) (him : ∀ t b, im t b → b < w.heap.size) (hgn : ∀ i, 2 ≤ i → g i = none) (hgl : ∀ i bi b, g i = some bi → bi.a = some b → b < w.heap.size)
    (hp : Put w w' b 3 (bi0.cap * 1)) (hn : n ≤ bi0.cap) (hr : ∀ im : Im, RL im w' b (ints x') 0 []) :
    Back w im g [b, vb] 2 rt (.h (.sl 0 0 n)) [.arr 3 1 (ints x'), .arr 3 1 (ints [key])] (.slice (some ⟨b, 0, none⟩) n bi0.cap) w' g im [b, vb] := by
  have hne : vb ≠ b := fun e => by subst e; simp at hnd
  have hvh' : w'.heap[vb]? = some (.cells curv 3) := (hp.same vb hne).trans hvh
  obtain ⟨cur, hc1, hc2⟩ := hp.row
  refine ⟨Nat.le_refl _, ?_, ?_, hnd, fun c hc => ⟨by rw [hp.size]; exact (hlt c hc).1, (hlt c hc).2, .inr hc⟩, fun _ _ => rfl, hgn, fun i bi b h1 h2 => by rw [hp.size]; exact hgl i bi b h1 h2,
    fun i bi b h1 h2 => (by rw [hgn i h1] at h2; cases h2), fun _ _ h => h, fun _ _ h => .inl h, fun t b h => by rw [hp.size]; exact him t b h,
    ⟨hp.os, hp.tape, hp.output, by rw [hp.size]; exact Nat.le_refl _, fun c _ h => hp.same c fun e => h (by subst e; simp)⟩⟩
  · simp only [RA, RH]
    exact ⟨trivial, bi0, hg0, by omega, hm, by simp [slv, ha]⟩
  · simp only [num, HR, RO]
    refine ⟨bi0, [b], [vb], hg0, rfl, ⟨ht, he, .inr ⟨b, cur, [], ha, rfl, hc1, hc2, hr _⟩⟩, bi1, [vb], [], hg1, rfl, ⟨ht1, he1, .inr ⟨vb, curv, [], hb1, rfl, hvh', hvs, ?_⟩⟩, rfl⟩
    refine RL_tag _ _ _ _ (RL_mono (im := im) (w := w) (fun t c hc => ⟨hc, hp.same c fun e => (hlt b (by simp)).2 t (by subst e; exact hc)⟩) _ _ _ _ (hvh'.trans hvh.symm) (fun _ h => by cases h) hvr) (ints_tgs _)
theorem back_grow {rt : List Nat} {w w' : World} {im : Im} {g : Ga} {x x' : List Int} {key : Int} {n vb k : Nat} {F0 : List Nat} {bi0 bi1 : BI} {curv : Array Value}
    (hg0 : g 0 = some bi0) (hg1 : g 1 = some bi1) (h0 : RO g im w bi0 (.arr 3 1 (ints x)) F0) (hb1 : bi1.a = some vb) (ht1 : bi1.ty = 3) (he1 : bi1.e = 1) (hvh : w.heap[vb]? = some (.cells curv 3)) (hvs : curv.size = bi1.cap * 1) (hvr : RL im w vb (ints [key]) 0 [])
    (hnd : (F0 ++ [vb]).Nodup) (hlt : ∀ c ∈ F0 ++ [vb], c < w.heap.size ∧ ∀ t, ¬ im t c) (him : ∀ t b, im t b → b < w.heap.size) (hgn : ∀ i, 2 ≤ i → g i = none) (hgl : ∀ i bi b, g i = some bi → bi.a = some b → b < w.heap.size)
    (hos : w'.os = w.os) (htp : w'.tape = w.tape) (hou : w'.output = w.output) (hsz : w'.heap.size = w.heap.size + 1) (hk : ∀ c, c < w.heap.size → w'.heap[c]? = w.heap[c]?) (hrow : ∃ cur : Array Value, w'.heap[w.heap.size]? = some (.cells cur 3 (0, 0)) ∧ cur.size = k)
    (hkm : k ≤ maxLen) (hn : n ≤ k) (hr : ∀ im : Im, RL im w' w.heap.size (ints x') 0 []) :
    Back w im g (F0 ++ [vb]) 2 rt (.h (.sl 2 0 n)) [.arr 3 1 (ints x), .arr 3 1 (ints [key]), .arr 3 1 (ints x')] (.slice (some ⟨w.heap.size, 0, none⟩) n k) w' (gup g 2 ⟨some w.heap.size, k, 3, 1⟩) im (F0 ++ [vb] ++ [w.heap.size]) := by
  obtain ⟨cur, hc1, hc2⟩ := hrow
  have hgo := gup_old (bi := ⟨some w.heap.size, k, 3, 1⟩) hgn
  have him' : ∀ t c, im t c → im t c ∧ w'.heap[c]? = w.heap[c]? := fun t c hc => ⟨hc, hk c (him t c hc)⟩
  have hvl := (hlt vb (by simp)).1
  have g2 : gup g 2 ⟨some w.heap.size, k, 3, 1⟩ 2 = some ⟨some w.heap.size, k, 3, 1⟩ := by simp [gup]
  refine ⟨by simp, ?_, ?_, ?_, ?_, ?_, ?_, ?_, ?_, fun _ _ h => h, fun _ _ h => .inl h, fun t b h => by rw [hsz]; exact Nat.lt_succ_of_lt (him t b h),
    ⟨hos, htp, hou, by omega, fun c h _ => hk c h⟩⟩
  · simp only [RA, RH]
    exact ⟨trivial, _, g2, by simpa using hn, hkm, by simp [slv]⟩
  · simp only [num, HR]
    refine ⟨bi0, F0, [vb] ++ [w.heap.size], hgo _ _ hg0, by simp, RO_tag _ _ _ (RO_mono hgo him' _ _ _ (fun c hc => hk c (hlt c (List.mem_append_left _ hc)).1) h0) (ints_tgs _), bi1, [vb], [w.heap.size], hgo _ _ hg1, rfl, ?_, _, [w.heap.size], [], g2, rfl, ?_, rfl⟩
    · exact ⟨ht1, he1, .inr ⟨vb, curv, [], hb1, rfl, (hk vb hvl).trans hvh, hvs, RL_tag _ _ _ _ (RL_mono him' _ _ _ _ (hk vb hvl) (fun _ h => by cases h) hvr) (ints_tgs _)⟩⟩
    · exact ⟨rfl, rfl, .inr ⟨w.heap.size, cur, [], rfl, rfl, hc1, by rw [hc2, Nat.mul_one], hr _⟩⟩
  · rw [List.nodup_append]
    refine ⟨hnd, by simp, fun a ha b hb e => ?_⟩
    simp at hb
    subst hb e
    exact absurd (hlt _ ha).1 (Nat.lt_irrefl _)
  · intro b hb
    rcases List.mem_append.1 hb with hb | hb
    · exact ⟨by rw [hsz]; exact Nat.lt_succ_of_lt (hlt b hb).1, (hlt b hb).2, .inr hb⟩
    · simp at hb
      subst hb
      exact ⟨by omega, fun t h => absurd (him t _ h) (Nat.lt_irrefl _), .inl (Nat.le_refl _)⟩
  · intro i hi
    simp only [gup]
    split
    · omega
    · rfl
  · intro i hi
    have : i ≠ 2 := by simp at hi; omega
    simp only [gup, this, if_false]
    exact hgn i (by simp at hi; omega)
  · intro i bi b h1 h2
    rw [hsz]
    simp only [gup] at h1
    split at h1
    · cases h1; cases h2; exact Nat.lt_succ_self _
    · exact Nat.lt_succ_of_lt (hgl i bi b h1 h2)
  · intro i bi b hi h1 h2
    simp only [gup] at h1
    split at h1
    · cases h1; cases h2; exact .inl (Nat.le_refl _)
    · rw [hgn i hi] at h1; cases h1
theorem alloc_cell (w : World) (row : Array Value) (ty : TypeId) (j : Nat) : (w.drew.alloc (.cells row ty)).cell? ⟨w.heap.size, j, none⟩ = row[j]? := cell_of_row _ _ _ _ _ _ (heap_alloc_new w.drew _)
theorem insert_ac {rt : List Nat} (x : List Int) (key : Int) (i : Nat) (hi : i ≤ x.length) (hl : x.length ≤ 1000) :
    AC Try.prog 60 [.h (.sl 0 0 x.length), .h (.c (.int .i64 i)), .h (.sl 1 0 1)] [.arr 3 1 (ints x), .arr 3 1 (ints [key])] rt (InsPost x key i) := by
  refine ⟨⟨_, Try.func60, by kernel_rfl, by kernel_rfl⟩, ?_⟩
  intro w g im vs fps ha hh hnd hlt him hgn hgl
  simp only [RAs, RA, RH, R] at ha
  obtain ⟨v0, _, _, _, rfl, _, ⟨rfl, bi0, hg0, hc0, hm0, rfl⟩, v1, _, _, _, rfl, _, ⟨rfl, rfl⟩, v2, _, _, _, rfl, _, ⟨rfl, bi1, hg1, hc1, hm1, rfl⟩, rfl, _⟩ := ha
  simp only [num, HR, RO] at hh
  obtain ⟨bi0', F0, _, hg0', rfl, ⟨ht0, he0, h0⟩, bi1', F1, _, hg1', rfl, ⟨ht1, he1, h1⟩, rfl⟩ := hh
  obtain rfl : bi0 = bi0' := by rw [hg0] at hg0'; exact Option.some.inj hg0'
  obtain rfl : bi1 = bi1' := by rw [hg1] at hg1'; exact Option.some.inj hg1'
  rcases h1 with ⟨_, h1, _⟩ | ⟨vb, curv, fv, hvb, rfl, hvh, hvs, hvr⟩
  · cases h1
  obtain ⟨rfl, hvc⟩ := RL_int _ _ _ hvr
  have hne : bi1.cap < bi1.cap + 1 := by omega
  have hv63 := hm1
  have key1 : ∀ j v, (ivs [key])[j]? = some v → w.cell? ⟨vb, 0 + j, none⟩ = some v := fun j v hj => by
    obtain ⟨a, h1, rfl⟩ := ivs_get hj
    exact hvc j a h1
  have e1 : slv bi1.a (0 * bi1.e) 1 (bi1.cap - 0) = .slice (some ⟨vb, 0, none⟩) 1 bi1.cap := by simp [slv, hvb]
  have hfin : ∀ {v : Value} {w' : World} {g' : Ga} {fps' : List Nat} {r : AV} {hout : List Ob}, InsPost x key i r hout → Back w im g (F0 ++ ([vb] ++ [])) 2 rt r hout v w' g' im fps' → ∃ r hout v' g' im' fps', InsPost x key i r hout ∧ Ending.returned v = Ending.returned v' ∧ Back w im g (F0 ++ ([vb] ++ [])) 2 rt r hout v' w' g' im' fps' :=
    fun h1 h2 => ⟨_, _, _, _, _, _, h1, rfl, h2⟩
  rw [e1]
  rcases h0 with ⟨ha0, hx0, hcap0, rfl⟩ | ⟨b, cur, f0, ha0, rfl, hbh, hbs, hbr⟩
  · -- the row is nil
    have hx : x = [] := by cases x with
      | nil => rfl
      | cons y r => cases hx0
    subst hx
    obtain rfl : i = 0 := by simpa using hi
    rw [ha0, hcap0]
    refine (Any2.slices_Insert_int_end_grow lays21 none 0 0 vb 0 1 bi1.cap [] (ivs [key]) w (by omega) (Nat.le_refl _) (by omega) (by omega) rfl rfl (fun _ => rfl) (fun a h => by cases h) key1 (ivs_one _)).mono ?_
    rintro e w' ⟨rfl, rfl⟩
    refine hfin (.inr ⟨rfl, rfl⟩) (back_grow hg0 hg1 ⟨ht0, he0, .inl ⟨ha0, hx0, hcap0, rfl⟩⟩ hvb ht1 he1 hvh hvs hvr hnd hlt him hgn hgl rfl rfl rfl (by simp) (fun c hc => heap_alloc_old _ _ hc) ⟨_, heap_alloc_new w.drew _, ?_⟩
      (grownCap_le_maxLen w _ 0 _ (by unfold maxLen; omega)) (grownCap_ge w _ 0 _) fun im => int_RL _ _ fun j v hj => ?_)
    · simpa [ivs, size_zeroCells, Value.cells] using Nat.add_sub_cancel' (grownCap_ge w (0 + 1) 0 (rho21.t 3))
    · rw [alloc_cell, Nat.zero_add j, Array.getElem?_append_left (by
        obtain ⟨h, _⟩ := List.getElem?_eq_some_iff.1 hj
        simpa [ivs, insI] using h)]
      have : ([] ++ ivs [key]).toArray[j]? = (ivs (insI [] key 0))[j]? := by simp [insI]
      rw [this]
      simp only [ivs, List.getElem?_map, hj]
      rfl
  · obtain ⟨rfl, hxc⟩ := RL_int _ _ _ hbr
    have key0 : ∀ j v, (ivs x)[j]? = some v → w.cell? ⟨b, 0 + j, none⟩ = some v := fun j v hj => by
      obtain ⟨a, h1, rfl⟩ := ivs_get hj
      exact hxc j a h1
    have e0 : slv bi0.a (0 * bi0.e) x.length (bi0.cap - 0) = .slice (some ⟨b, 0, none⟩) x.length bi0.cap := by simp [slv, ha0]
    have hvb2 : vb ≠ b := fun e => by subst e; simp at hnd
    have hcell : ∀ k, k < cur.size → (w.cell? ⟨b, k, none⟩).isSome = true := fun k hk => by rw [cell_of_row w b k cur 3 (0, 0) hbh, Array.getElem?_eq_getElem hk]; rfl
    have hfr : ∀ k, w.frozen? ⟨b, k, none⟩ = false := fun k => frozen_of_row w b k cur 3 hbh
    have hfrv : ∀ k, w.frozen? ⟨vb, k, none⟩ = false := fun k => frozen_of_row w vb k curv 3 hvh
    have hroomf : ∀ {w' : World}, Put w w' b 3 (bi0.cap * 1) → (∀ j v, (insI x key i)[j]? = some v → w'.cell? ⟨b, j, none⟩ = some (.int .i64 v)) → x.length + 1 ≤ bi0.cap → ∃ r hout v' g' im' fps', InsPost x key i r hout ∧ Ending.returned (.slice (some ⟨b, 0, none⟩) (x.length + 1) bi0.cap) = Ending.returned v' ∧ Back w im g ([b] ++ ([vb] ++ [])) 2 rt r hout v' w' g' im' fps' :=
      fun hp hr hn => hfin (.inl ⟨rfl, rfl⟩) (back_room hg0 hg1 ha0 ht0 he0 hm0 hvb ht1 he1 hvh hvs hvr hnd hlt him hgn hgl hp hn fun im => int_RL _ _ fun j v hj => by rw [Nat.zero_add]; exact hr j v hj)
    have hstart : Put w w b 3 (bi0.cap * 1) := hbs ▸ Put.start hbh
    rw [e0]
    rcases Nat.lt_or_ge i x.length with hlt' | hge
    · by_cases hroom : x.length + 1 ≤ bi0.cap
      · -- in place, shifted
        refine (Any2.slices_Insert_int_shift lays21 b 0 x.length bi0.cap i vb 0 1 bi1.cap (ivs x) (ivs [key]) w hlt' (by omega) hroom (by simpa [maxLen] using hm0) hvb2 (by simp [ivs]) rfl key0 (fun j hj => hcell _ (by omega)) (fun j _ => hfr _) key1 (ivs_one _) (ivs_one _) 3 3 curv.size cur.size ?_ ?_ (by omega) (hfrv _) (hfrv _)).mono ?_
        · simp [World.shape?, hvh]
        · simp [World.shape?, hbh]
        · rintro e w' ⟨rfl, rfl⟩
          refine hroomf ((hstart.drew.set _ _).set _ _) (fun j v hj => ?_) hroom
          have := (shift_cells (w := w.drew) hbh x key i hi (by omega) (fun j v _ hj => by have := hxc j v hj; rwa [Nat.zero_add] at this) j v hj).1
          simpa [ivs] using this
      · -- a new row
        refine (Any2.slices_Insert_int_grow lays21 b 0 x.length bi0.cap i vb 0 1 bi1.cap (ivs x) (ivs [key]) w hlt' (by omega) (by omega) (by omega) (by omega) (by simp [ivs]) rfl key0 key1 (ivs_one _) (ivs_one _)).mono ?_
        rintro e w' ⟨rfl, rfl⟩
        have hG := grownCap_ge w (x.length + 1) bi0.cap (rho21.t 3)
        generalize hrow : ((ivs x).take i).toArray ++ Builtin.zeroCells (Value.int .i64 0).cells (x.length + 1 - i) ++ Builtin.zeroCells (Value.int .i64 0).cells (grownCap w (x.length + 1) bi0.cap (rho21.t 3) - (x.length + 1)) = row
        have hsize : row.size = grownCap w (x.length + 1) bi0.cap (rho21.t 3) := by
          rw [← hrow]
          simp [ivs, size_zeroCells, Value.cells]
          omega
        have hput := ((((Put.start (heap_alloc_new w (.cells row (rho21.t 3)))).drew).set i (ivs [key])).drew).set (i + 1) ((ivs x).drop i)
        have hi' : ivs (x.drop i) = (ivs x).drop i := by simp [ivs]
        refine hfin (.inr ⟨rfl, rfl⟩) (back_grow hg0 hg1 ⟨ht0, he0, .inr ⟨b, cur, [], ha0, rfl, hbh, hbs, hbr⟩⟩ hvb ht1 he1 hvh hvs hvr hnd hlt him hgn hgl hput.os hput.tape hput.output (hput.size.trans (by simp)) (fun c hc => (hput.same c (by omega)).trans (heap_alloc_old _ _ hc)) (by rw [← hsize]; exact hput.row)
          (grownCap_le_maxLen w _ _ _ (by unfold maxLen; omega)) hG fun im => int_RL _ _ fun j v hj => ?_)
        have := (shift_cells (w := (w.alloc (.cells row (rho21.t 3))).drew) (heap_alloc_new w _) x key i hi (by omega) (fun j v hji hj => by
          refine (cell_of_row _ _ _ _ _ _ (heap_alloc_new w _)).trans ?_
          rw [← hrow, Array.append_assoc, Array.getElem?_append_left (by
            obtain ⟨h, _⟩ := List.getElem?_eq_some_iff.1 hj
            simp [ivs]; omega)]
          simp only [ivs, List.getElem?_toArray, List.getElem?_take, hji, if_true, List.getElem?_map, hj]
          rfl) j v hj).2
        rw [← drew_setCells, Nat.zero_add, ← hi']
        exact this
    · obtain rfl : i = x.length := by omega
      by_cases hroom : x.length + 1 ≤ bi0.cap
      · refine (Any2.slices_Insert_int_end_room lays21 b 0 x.length bi0.cap vb 0 1 bi1.cap (ivs [key]) w (by omega) hroom (by simpa [maxLen] using hm0) rfl (fun j hj => hcell _ (by omega)) (fun j _ => hfr _) key1 (ivs_one _)).mono ?_
        rintro e w' ⟨rfl, rfl⟩
        refine hroomf (hstart.set _ _) (fun j v hj => ?_) hroom
        have := (shift_cells (w := w) hbh x key x.length hi (by omega) (fun j v _ hj => by have := hxc j v hj; rwa [Nat.zero_add] at this) j v hj).1
        simpa [ivs, World.setCells] using this
      · refine (Any2.slices_Insert_int_end_grow lays21 (some ⟨b, 0, none⟩) x.length bi0.cap vb 0 1 bi1.cap (ivs x) (ivs [key]) w (by omega) (by omega) (by omega) (by omega) (by simp [ivs]) rfl (fun h => by cases h) (fun a ha j v hj => by
          cases ha
          rw [addr_add]
          exact key0 j v hj) key1 (ivs_one _)).mono ?_
        rintro e w' ⟨rfl, rfl⟩
        refine hfin (.inr ⟨rfl, rfl⟩) (back_grow hg0 hg1 ⟨ht0, he0, .inr ⟨b, cur, [], ha0, rfl, hbh, hbs, hbr⟩⟩ hvb ht1 he1 hvh hvs hvr hnd hlt him hgn hgl rfl rfl rfl (by simp) (fun c hc => heap_alloc_old _ _ hc) ⟨_, heap_alloc_new w.drew _, ?_⟩
          (grownCap_le_maxLen w _ _ _ (by unfold maxLen; omega)) (grownCap_ge w _ _ _) fun im => int_RL _ _ fun j v hj => ?_)
        · simpa [ivs, size_zeroCells, Value.cells] using Nat.add_sub_cancel' (grownCap_ge w (x.length + 1) bi0.cap (rho21.t 3))
        · rw [alloc_cell, Nat.zero_add j, Array.getElem?_append_left (by
            obtain ⟨h, _⟩ := List.getElem?_eq_some_iff.1 hj
            simpa [ivs, insI] using h)]
          have : (ivs x ++ ivs [key]).toArray[j]? = (ivs (insI x key x.length))[j]? := by simp [insI, ivs]
          rw [this]
          simp only [ivs, List.getElem?_map, hj]
          rfl
end Go.Proofs.Ytjijkdhjfanpaaa
