/- The engine, part j: the operations on rows. -/
import Derived.Test.YtjijkdhjfanpaaaEi
namespace Go.Proofs.Ytjijkdhjfanpaaa
open Go.RowKit

section
variable {E : Env} {te : TE} {s : AS} {o : Oper} {Q : AS → Prop}
theorem mem_nodup_cons {n : Nat} {f : List Nat} {m : Nat} (h : f.Nodup) (hl : ∀ b ∈ f, b < m) (hm : m ≤ n) : (n :: f).Nodup := List.nodup_cons.2 ⟨fun hn => by have := hl n hn; omega, h⟩
/-- A row that is written out: '[]T{..}', and the row that a variadic call makes. -/
theorem es_bs {t e len : Nat} {sz' b'' : Nat} {zs'' : List CV} {parts : Array (Nat × Operand)} {inf : TInf} {cs : List HV} {xs : List CV} {hp' : List (Nat × Ob)} (hte : teOk E.P te = true) (hop : o.op = .buildSlice t len parts) (ht : look t te = some ⟨.slice e, sz', b'', zs''⟩) (he : look e te = some inf)
    (hlay : lay (fun i => some (i * inf.sz, inf.sz)) s (reps (inf.zs.map HV.c) len) parts.toList = some cs) (habs : absL s.hp cs = some (xs, hp')) (hsm : Nat.ble (len * inf.sz) 16777216 = true) (hsz : Nat.blt 0 inf.sz = true) (hd : dok E.nt o.dst = true)
    (hQ : Q (({ fr := s.fr, hp := (s.nx, .arr e inf.sz xs) :: hp', nx := s.nx + 1 } : AS).putd o.dst (.h (.sl s.nx 0 len)))) : ES E s o (some []) Q := by
  intro g im a w K QQ ⟨fps, hs⟩ hK
  have hu := slice_und hte ht
  obtain ⟨⟨i, z, h1, h2, h3, h4, h5, h6⟩, h7⟩ := teOk_look hte he
  have hsz' : 0 < inf.sz := Nat.lt_of_succ_le (Nat.le_of_ble_eq_true hsz)
  have hsm' := Nat.le_of_ble_eq_true hsm
  have hz0 : RHs g im w (inf.zs.map HV.c) z.cells.toList [] := areV_RHs _ _ h5
  have hr0 := RHs_reps hz0 len
  have hm : (madeCells z.cells (len * inf.sz)).toList = reps z.cells.toList len := by rw [← h6]; exact madeCells_reps _ _ (by omega)
  obtain ⟨us', hfill, hr⟩ := lay_fill hs parts.toList _ (madeCells z.cells (len * inf.sz)) cs hlay (by rw [hm]; exact hr0)
  obtain ⟨fx, f0, hx, hh, hn, hsub⟩ := absL_sound cs s.hp _ fps xs hp' habs hr hs.hp hs.nd
  have hlen : us'.size = len * inf.sz := by
    have e1 := RHs_length _ _ _ hr
    have key : ∀ (parts : List (Nat × Operand)) (cs cs' : List HV), lay (fun i => some (i * inf.sz, inf.sz)) s cs parts = some cs' → cs'.length = cs.length := by
      intro parts
      induction parts with
      | nil => intro cs cs' h; simp only [lay, Option.some.injEq] at h; rw [h]
      | cons p r ih =>
        intro cs cs' h
        obtain ⟨i, x⟩ := p
        simp only [lay] at h
        split at h
        · split at h
          · rename_i off sz y hp hy _ ys hys
            cases hb : (Nat.beq ys.length sz && Nat.ble (off + ys.length) cs.length) with
            | false => rw [hb] at h; simp at h
            | true =>
              rw [hb] at h
              simp only [cond_true] at h
              simp only [Bool.and_eq_true] at hb
              rw [ih _ _ h, setL_length _ _ _ (Nat.le_of_ble_eq_true hb.2)]
          · cases h
        · cases h
    have e2 := key _ _ _ hlay
    rw [reps_length] at e2
    have e3 := areV_length _ _ h5
    simp at e1 e2 e3
    rw [e1, e2, e3, h6]
  have hrun : (execOp a.eval o).run E.P w = .ok (.value (.slice (some ⟨w.heap.size, 0, none⟩) len len)) (w.alloc (.cells us' e)) := by
    have hps : (parts.map fun (p : Nat × Operand) => (p.1, a.eval p.2)).toList = parts.toList.map fun (i, x) => (i, a.eval x) := by simp
    have hmade : ((Array.range (len * inf.sz)).map (z.cells[· % z.cells.size]!)) = madeCells z.cells (len * inf.sz) := rfl
    simp only [execOp, hop, Instr.buildSlice, Sem.run_bind, run_underlying hu, Result.andThen_ok, sizeOf, typeInfo, run_program, h1, Sem.run_pure, h2]
    rw [if_neg (by omega)]
    by_cases h0 : len * inf.sz = 0
    · rw [if_pos h0]
      simp only [Sem.run_pure, Result.andThen_ok, Sem.run_bind]
      have hm0 : ((Array.range (len * inf.sz)).map ((#[] : Array Value)[· % (#[] : Array Value).size]!)) = madeCells z.cells (len * inf.sz) := by rw [h0]; simp [madeCells]
      rw [hm0, hps, hfill]
      simp [newRow]
    · rw [if_neg h0]
      simp only [zeroValue, Sem.run_bind, typeInfo, run_program, h1, Sem.run_pure, Result.andThen_ok, h4]
      rw [hmade, hps, hfill]
      simp [newRow]
  have hk : ∀ b, b < w.heap.size → (w.alloc (.cells us' e)).heap[b]? = w.heap[b]? := fun b hb => Below.heap_alloc w _ b hb
  have hcell : ∀ j u, us'.toList[j]? = some u → (w.alloc (.cells us' e)).cell? ⟨w.heap.size, 0 + j, none⟩ = some u := by
    intro j u hj
    rw [Nat.zero_add, cell_of_row _ _ _ us' e (0, 0) (heap_alloc_new w _)]
    simpa using hj
  have hlt : ∀ b ∈ fx, b < w.heap.size := fun b hb => hs.lt b (hsub b (List.mem_append_left _ hb))
  have hx' : RHs g im (w.alloc (.cells us' e)) (xs.map HV.c) us'.toList fx := RHs_mono (fun _ _ h => h) (fun t b hb => ⟨hb, hk b (hs.il t b hb)⟩) _ _ _ (fun b hb => hk b (hlt b hb)) hx
  have hsim := hs.swap (fr := fx) (f' := w.heap.size :: fx) (w' := w.alloc (.cells us' e)) hh hn hsub ⟨some w.heap.size, len, e, inf.sz⟩ (.arr e inf.sz xs) (fun b hb _ => hk b hb) (by simp) rfl rfl rfl
    (mem_nodup_cons (List.nodup_append.1 hn).1 hlt (Nat.le_refl _)) (fun b hb => by rcases List.mem_cons.1 hb with rfl | hb; exact .inr (Nat.le_refl _); exact .inl hb)
    (fun b hb => by rcases List.mem_cons.1 hb with rfl | hb; simp; have := hlt b hb; simp; omega) (fun b hb => by simp at hb; subst hb; simp)
    ⟨rfl, rfl, .inr ⟨w.heap.size, us', fx, rfl, rfl, heap_alloc_new w _, hlen, RHs_RL xs _ 0 fx hx' hcell⟩⟩
  unfold Oper.wp
  rw [hrun]
  refine hK _ im _ _ _ _ ⟨_, hsim.putd (dok_lt hd) (v := .slice (some ⟨w.heap.size, 0, none⟩) len len) ?_⟩ hQ (Chg.swap (F := fun _ => False) hs.gn (fun b hb => by simp at hb; left; omega) (fun _ h => h.elim) (fun b hb => .inr (hk b hb)) (by simp)) fun _ _ _ h => h.elim
  simp only [RA, RH]
  refine ⟨trivial, ⟨some w.heap.size, len, e, inf.sz⟩, by simp [gup], by simp, ?_, by simp [slv]⟩
  have : len ≤ 16777216 := Nat.le_trans (Nat.le_mul_of_pos_right _ hsz') hsm'
  simp only [maxLen]; omega
/-- make([]T, n). -/
theorem es_make {t e : Nat} {sz' b'' : Nat} {zs'' : List CV} {x y : Operand} {inf : TInf} {i j : Int} (n c : Nat) (hte : teOk E.P te = true) (hop : o.op = .makeSlice t x y) (hx : s.eval x = some (.h (.c (.int .i64 i)))) (hy : s.eval y = some (.h (.c (.int .i64 j)))) (hi : i = (n : Int)) (hj : j = (c : Int)) (hnc : n ≤ c)
    (ht : look t te = some ⟨.slice e, sz', b'', zs''⟩) (he : look e te = some inf) (hby : c * inf.by' ≤ 140737488355328) (hmx : c ≤ 9223372036854775807) (hsz : Nat.blt 0 inf.sz = true) (hd : dok E.nt o.dst = true)
    (hQ : Q (({ fr := s.fr, hp := (s.nx, .arr e inf.sz (reps inf.zs n)) :: s.hp, nx := s.nx + 1 } : AS).putd o.dst (.h (.sl s.nx 0 n)))) : ES E s o (some []) Q := by
  intro g im a w K QQ ⟨fps, hs⟩ hK
  have hu := slice_und hte ht
  obtain ⟨⟨ii, z, h1, h2, h3, h4, h5, h6⟩, h7⟩ := teOk_look hte he
  have hsz' : 0 < inf.sz := Nat.lt_of_succ_le (Nat.le_of_ble_eq_true hsz)
  subst hi hj
  have e1 := RA_int (hs.eval hx)
  have e2 := RA_int (hs.eval hy)
  have hm : (madeCells z.cells (c * inf.sz)).toList = reps z.cells.toList c := by rw [← h6]; exact madeCells_reps _ _ (by omega)
  have hb0 : (ii.bytes : Int) * (c : Int) ≤ 281474976710656 := by
    rw [h3]
    have : ((inf.by' * c : Nat) : Int) ≤ 281474976710656 := by rw [Nat.mul_comm]; omega
    rwa [Int.natCast_mul] at this
  have hrun0 := run_make (P := E.P) w t e ii z hu h1 h4 .i64 .i64 n c (by omega) (by omega) hb0 (by omega)
  simp only [Int.toNat_natCast, h2] at hrun0
  have hrun : (execOp a.eval o).run E.P w = .ok (.value (.slice (some ⟨w.heap.size, 0, none⟩) n c)) (w.alloc (.cells (madeCells z.cells (c * inf.sz)) e)) := by
    simp only [execOp, hop, e1, e2, Sem.run_bind, hrun0, Result.andThen_ok, Sem.run_pure]
  have hk : ∀ b, b < w.heap.size → (w.alloc (.cells (madeCells z.cells (c * inf.sz)) e)).heap[b]? = w.heap[b]? := fun b hb => Below.heap_alloc w _ b hb
  have hz0 : RHs g im w (inf.zs.map HV.c) z.cells.toList [] := areV_RHs _ _ h5
  have hmap : ∀ k, (reps inf.zs k).map HV.c = reps (inf.zs.map HV.c) k := by
    intro k
    induction k with
    | zero => rfl
    | succ k ih => simp [reps, ih]
  have hr0 := RHs_reps hz0 n
  rw [← hmap] at hr0
  have hpre : ∀ (k c : Nat), k ≤ c → ∀ (j : Nat) (u : Value), (reps z.cells.toList k)[j]? = some u → (reps z.cells.toList c)[j]? = some u := by
    intro k c hkc j u hj
    have hjl : j < k * z.cells.toList.length := by
      rw [← reps_length]
      exact (List.getElem?_eq_some_iff.1 hj).1
    rw [reps_get _ _ _ hjl] at hj
    rw [reps_get _ _ _ (Nat.lt_of_lt_of_le hjl (Nat.mul_le_mul_right _ hkc)), hj]
  have hcell : ∀ j u, (reps z.cells.toList n)[j]? = some u → (w.alloc (.cells (madeCells z.cells (c * inf.sz)) e)).cell? ⟨w.heap.size, 0 + j, none⟩ = some u := by
    intro j u hj
    rw [Nat.zero_add, cell_of_row _ _ _ _ e (0, 0) (heap_alloc_new w _), ← Array.getElem?_toList, hm]
    exact hpre n c hnc j u hj
  have hr' : RHs g im (w.alloc (.cells (madeCells z.cells (c * inf.sz)) e)) ((reps inf.zs n).map HV.c) (reps z.cells.toList n) [] := RHs_mono (fun _ _ h => h) (fun t b hb => ⟨hb, hk b (hs.il t b hb)⟩) _ _ _ (fun _ h => by cases h) hr0
  have hsim := hs.swap (fr := []) (f' := [w.heap.size]) (w' := w.alloc (.cells (madeCells z.cells (c * inf.sz)) e)) hs.hp (by simpa using hs.nd) (by simp) ⟨some w.heap.size, c, e, inf.sz⟩ (.arr e inf.sz (reps inf.zs n)) (fun b hb _ => hk b hb) (by simp) rfl rfl rfl
    (by simp) (fun b hb => by simp at hb; right; omega) (fun b hb => by simp at hb; simp; omega) (fun b hb => by simp at hb; subst hb; simp)
    ⟨rfl, rfl, .inr ⟨w.heap.size, _, [], rfl, rfl, heap_alloc_new w _, by simp [size_madeCells], RHs_RL _ _ 0 [] hr' hcell⟩⟩
  unfold Oper.wp
  rw [hrun]
  refine hK _ im _ _ _ _ ⟨_, hsim.putd (dok_lt hd) (v := .slice (some ⟨w.heap.size, 0, none⟩) n c) ?_⟩ hQ (Chg.swap (F := fun _ => False) hs.gn (fun b hb => by simp at hb; left; omega) (fun _ h => h.elim) (fun b hb => .inr (hk b hb)) (by simp)) fun _ _ _ h => h.elim
  simp only [RA, RH]
  exact ⟨trivial, ⟨some w.heap.size, c, e, inf.sz⟩, by simp [gup], by simp; omega, by simp only [maxLen]; omega, by simp [slv]⟩

/-! ### append -/
def baseOf (s : AS) (ty e : Nat) : AV → Option (Nat × List CV × List (Nat × Ob) × List Nat)
  | .h (.c .nil) => some (0, [], s.hp, [])
  | .h (.sl id 0 n) => match look id s.hp with
    | some (.arr ty' e' xs) => bif Nat.beq ty' ty && Nat.beq e' e then some (n, xs, del id s.hp, [id]) else none
    | _ => none
  | _ => none
/-- What is appended: nothing, a slice that is only read, a row of the call's own that goes with it. -/
def srcOf (hp : List (Nat × Ob)) : AV → Option (Nat × List CV × List (Nat × Ob))
  | .h (.c .nil) => some (0, [], hp)
  | .h (.c (.rd _ m ys)) => some (m, ys, hp)
  | .h (.sl id 0 m) => match look id hp with
    | some (.arr _ _ ys) => some (m, ys, del id hp)
    | _ => none
  | _ => none
theorem base_sound {g : Ga} {im : Im} {fps : List Nat} {a : Act} {w : World} (hs : SimF E g im fps s a w) {ty e n : Nat} {xs : List CV} {hp0 : List (Nat × Ob)} {md : List Nat} {x : AV} {v : Value} (hb : baseOf s ty e x = some (n, xs, hp0, md)) (hl : xs.length = n * e) (hv : RA g im w x v []) :
    ∃ us fx fr f0, w.ownsRow 0 ty e v n us ∧ RHs g im w (xs.map HV.c) us fx ∧ HR g im w hp0 f0 ∧ (fr ++ f0).Nodup ∧ (∀ b ∈ fr ++ f0, b ∈ fps) ∧ fx.Sublist fr ∧ (∀ b, v.ownBlock = some b → fr = b :: fx ∧ ∃ id ∈ md, ∃ bi, g id = some bi ∧ bi.a = some b) ∧ (v.ownBlock = none → fx = []) := by
  unfold baseOf at hb
  split at hb
  · simp only [Option.some.injEq, Prod.mk.injEq] at hb
    obtain ⟨rfl, rfl, rfl, rfl⟩ := hb
    simp only [RA, RH, R] at hv
    rw [hv.1]
    exact ⟨[], [], [], fps, World.ownsRow_nil w 0 ty e, ⟨rfl, rfl⟩, hs.hp, by simpa using hs.nd, by simp, List.Sublist.refl _, by simp [Value.ownBlock], fun _ => rfl⟩
  · rename_i id n'
    split at hb
    · rename_i ty' e' xs' hlk
      cases hc : (Nat.beq ty' ty && Nat.beq e' e) with
      | false => rw [hc] at hb; simp at hb
      | true =>
        rw [hc] at hb
        simp only [cond_true, Option.some.injEq, Prod.mk.injEq] at hb
        obtain ⟨rfl, rfl, rfl, rfl⟩ := hb
        simp only [Bool.and_eq_true] at hc
        obtain rfl : ty' = ty := Nat.eq_of_beq_eq_true hc.1
        obtain rfl : e' = e := Nat.eq_of_beq_eq_true hc.2
        simp only [RA, RH] at hv
        obtain ⟨_, bi, hg, h3, h4, rfl⟩ := hv
        obtain ⟨bi', f1, f2, f3, hg', hf, hro, hd⟩ := HR_del hs.hp hlk
        obtain rfl : bi = bi' := by rw [hg] at hg'; exact Option.some.inj hg'
        have hn := hs.nd
        rw [hf] at hn
        have hn2 : (f2 ++ (f1 ++ f3)).Nodup := by
          rw [List.nodup_append] at hn ⊢
          obtain ⟨n1, n2, n3⟩ := hn
          rw [List.nodup_append] at n2
          refine ⟨n2.1, ?_, fun a ha b hb => ?_⟩
          · rw [List.nodup_append]
            exact ⟨n1, n2.2.1, fun a ha b hb => n3 a ha b (List.mem_append_right _ hb)⟩
          · rcases List.mem_append.1 hb with hb | hb
            · exact (n3 b hb a (List.mem_append_left _ ha)).symm
            · exact n2.2.2 a ha b hb
        have hsub : ∀ b ∈ f2 ++ (f1 ++ f3), b ∈ fps := by
          intro b hb
          rw [hf]
          rcases List.mem_append.1 hb with hb | hb
          · exact List.mem_append_right _ (List.mem_append_left _ hb)
          · rcases List.mem_append.1 hb with hb | hb
            · exact List.mem_append_left _ hb
            · exact List.mem_append_right _ (List.mem_append_right _ hb)
        obtain ⟨h9, h10, ⟨h11, h12, h13, h14⟩ | ⟨b, cur, f, h11, h12, h13, h14, h15⟩⟩ := hro
        · subst h12 h14
          have hn0 : n' = 0 := by omega
          subst hn0
          refine ⟨[], [], [], f1 ++ f3, ?_, ⟨rfl, rfl⟩, hd, by simpa using hn2, hsub, List.Sublist.refl _, ?_, fun _ => rfl⟩
          · rw [h11, h13]; exact World.ownsRow_nil w 0 _ _
          · rw [h11]; simp [slv, Value.ownBlock]
        · subst h12
          obtain ⟨us, hus, hcell⟩ := RL_RHs (g := g) _ _ _ h15
          have hul := RHs_length _ _ _ hus
          simp only [List.length_map] at hul
          refine ⟨us, f, b :: f, f1 ++ f3, ?_, hus, hd, hn2, hsub, List.sublist_cons_self _ _, ?_, ?_⟩
          · refine ⟨by omega, .inr ⟨b, bi.cap, cur, ?_, Nat.zero_le _, h13, by omega, h4, h14, ?_⟩⟩
            · rw [h11]; simp [slv]
            · apply List.ext_getElem?
              intro j
              by_cases hj : j < n' * e'
              · rw [List.getElem?_take, if_pos hj]
                have hju : j < us.length := by omega
                have := hcell j _ (List.getElem?_eq_getElem hju)
                rw [Nat.zero_add, cell_of_row w b j cur _ (0, 0) h13] at this
                rw [List.getElem?_eq_getElem hju, ← this]
                simp
              · rw [List.getElem?_eq_none (by simp; omega), List.getElem?_eq_none (by omega)]
          · intro b' hb'
            rw [h11] at hb'
            simp [slv, Value.ownBlock] at hb'
            subst hb'
            exact ⟨rfl, id, List.mem_cons_self, bi, hg, h11⟩
          · intro h
            rw [h11] at h
            simp [slv, Value.ownBlock] at h
    · cases hb
  · cases hb
theorem src_sound {g : Ga} {im : Im} {w : World} {hp0 : List (Nat × Ob)} {f0 : List Nat} (hh : HR g im w hp0 f0) (hn : f0.Nodup) {m e : Nat} (he0 : 0 < e) {ys : List CV} {hp1 : List (Nat × Ob)} {x : AV} {v : Value} (hb : srcOf hp0 x = some (m, ys, hp1)) (hl : ys.length = m * e) (hv : RA g im w x v []) :
    ∃ A c us fy f1, v = .slice A m c ∧ us.length = m * e ∧ RHs g im w (ys.map HV.c) us fy ∧ HR g im w hp1 f1 ∧ (fy ++ f1).Nodup ∧ (∀ b ∈ fy ++ f1, b ∈ f0) ∧ ((us = [] ∧ m = 0 ∧ A = none) ∨ ∃ ad, A = some ad ∧ ∀ j u, us[j]? = some u → w.cell? (ad.add j) = some u) ∧ (m = 0 → us = []) := by
  unfold srcOf at hb
  have zero : ∀ {us : List Value}, us.length = m * e → m = 0 → us = [] := fun h1 h2 => List.eq_nil_of_length_eq_zero (by rw [h1, h2, Nat.zero_mul])
  split at hb
  · simp only [Option.some.injEq, Prod.mk.injEq] at hb
    obtain ⟨rfl, rfl, rfl⟩ := hb
    simp only [RA, RH, R] at hv
    exact ⟨none, 0, [], [], f0, hv.1, by simp, ⟨rfl, rfl⟩, hh, by simpa using hn, by simp, .inl ⟨rfl, rfl, rfl⟩, fun _ => rfl⟩
  · simp only [Option.some.injEq, Prod.mk.injEq] at hb
    obtain ⟨rfl, rfl, rfl⟩ := hb
    simp only [RA, RH, R] at hv
    obtain ⟨_, A, c, rfl, h3, h4, h5⟩ := hv
    rcases h5 with h5 | ⟨b, oo, hA, him, hr⟩
    · subst h5
      simp only [List.length_nil] at hl
      refine ⟨A, c, [], [], f0, rfl, by simpa using hl, ⟨rfl, rfl⟩, hh, by simpa using hn, by simp, ?_, fun _ => rfl⟩
      cases A with
      | some ad => exact .inr ⟨ad, rfl, by simp⟩
      | none =>
        left
        refine ⟨rfl, ?_, rfl⟩
        rcases Nat.mul_eq_zero.1 hl.symm with h | h
        · exact h
        · omega
    · obtain ⟨us, hus, hcell⟩ := RL_RHs (g := g) _ _ _ hr
      have hul := RHs_length _ _ _ hus
      simp only [List.length_map] at hul
      exact ⟨A, c, us, [], f0, rfl, by omega, hus, hh, by simpa using hn, by simp, .inr ⟨_, hA, fun j u hj => by rw [addr_add]; exact hcell j u hj⟩, zero (by omega)⟩
  · rename_i id m'
    split at hb
    · rename_i ty' e' ys' hlk
      simp only [Option.some.injEq, Prod.mk.injEq] at hb
      obtain ⟨rfl, rfl, rfl⟩ := hb
      simp only [RA, RH] at hv
      obtain ⟨_, bi, hg, h3, h4, rfl⟩ := hv
      obtain ⟨bi', f1, f2, f3, hg', hf, hro, hd⟩ := HR_del hh hlk
      obtain rfl : bi = bi' := by rw [hg] at hg'; exact Option.some.inj hg'
      rw [hf] at hn
      have hn2 : (f2 ++ (f1 ++ f3)).Nodup := by
        rw [List.nodup_append] at hn ⊢
        obtain ⟨n1, n2, n3⟩ := hn
        rw [List.nodup_append] at n2
        refine ⟨n2.1, ?_, fun a ha b hb => ?_⟩
        · rw [List.nodup_append]
          exact ⟨n1, n2.2.1, fun a ha b hb => n3 a ha b (List.mem_append_right _ hb)⟩
        · rcases List.mem_append.1 hb with hb | hb
          · exact (n3 b hb a (List.mem_append_left _ ha)).symm
          · exact n2.2.2 a ha b hb
      have hsub : ∀ b ∈ f2 ++ (f1 ++ f3), b ∈ f0 := by
        intro b hb
        rw [hf]
        rcases List.mem_append.1 hb with hb | hb
        · exact List.mem_append_right _ (List.mem_append_left _ hb)
        · rcases List.mem_append.1 hb with hb | hb
          · exact List.mem_append_left _ hb
          · exact List.mem_append_right _ (List.mem_append_right _ hb)
      obtain ⟨h9, h10, ⟨h11, h12, h13, h14⟩ | ⟨b, cur, f, h11, h12, h13, h14, h15⟩⟩ := hro
      · subst h12 h14
        have hn0 : m' = 0 := by omega
        subst hn0
        refine ⟨none, bi.cap, [], [], f1 ++ f3, by rw [h11]; simp [slv], by simp, ⟨rfl, rfl⟩, hd, by simpa using hn2, hsub, .inl ⟨rfl, rfl, rfl⟩, fun _ => rfl⟩
      · subst h12
        obtain ⟨us, hus, hcell⟩ := RL_RHs (g := g) _ _ _ h15
        have hul := RHs_length _ _ _ hus
        simp only [List.length_map] at hul
        have hsl : (f ++ (f1 ++ f3)).Sublist (b :: f ++ (f1 ++ f3)) := List.Sublist.append (List.sublist_cons_self _ _) (List.Sublist.refl _)
        refine ⟨some ⟨b, 0, none⟩, bi.cap, us, f, f1 ++ f3, by rw [h11]; simp [slv], by omega, hus, hd, hn2.sublist hsl, fun c hc => hsub c (hsl.subset hc), .inr ⟨_, rfl, fun j u hj => by rw [addr_add]; exact hcell j u hj⟩, zero (by omega)⟩
    · cases hb
  · cases hb
theorem run_append_of_nil {P : Program} (w : World) (base : Nat) (t ty e : TypeId) (i : TypeInfo) (size : Nat) (ht : P.underlying t = some (.slice e)) (hi : P.info? e = some i)
    (v : Value) (n : Nat) (xs : List Value) (hown : w.ownsRow base e size v n xs) (c : Nat) : (Builtin.append_ #[t, t] ty #[v, .slice none 0 c]).run P w = .ok v w := by
  rcases hown.2 with ⟨rfl, rfl⟩ | ⟨g, cap, cur, rfl, _, _, hnc, _⟩
  · simp [Builtin.append_, run_underlying ht, sizeOf, typeInfo, hi, Builtin.lenOf, Builtin.firstCells]
  · simp [Builtin.append_, run_underlying ht, sizeOf, typeInfo, hi, Builtin.lenOf, Builtin.firstCells, hnc, storeCells]
theorem run_append {P : Program} {te : TE} (hte : teOk P te = true) {t e : Nat} {sz' b'' : Nat} {zs'' : List CV} {inf : TInf} (ht : look t te = some ⟨.slice e, sz', b'', zs''⟩) (he : look e te = some inf) (hsz : 0 < inf.sz) {w : World} (ty : TypeId) (v : Value) (n : Nat) (us : List Value) (hown : w.ownsRow 0 e inf.sz v n us)
    (A : Option Addr) (m c : Nat) (ns : List Value) (hl : ns.length = m * inf.sz) (h1 : ∀ u ∈ ns, u.oneCell' = true) (hA : (ns = [] ∧ m = 0 ∧ A = none) ∨ ∃ ad, A = some ad ∧ ∀ j u, ns[j]? = some u → w.cell? (ad.add j) = some u) (h63 : n + m ≤ maxLen) (hbytes : (n + m) * inf.by' ≤ 140737488355328) :
    ∃ v' w', (Builtin.append_ #[t, t] ty #[v, .slice A m c]).run P w = .ok v' w' ∧ w'.ownsRow 0 e inf.sz v' (n + m) (us ++ ns) ∧ w.grownBy w' v.ownBlock ∧ (v'.ownBlock = v.ownBlock ∨ v'.ownBlock = some w.heap.size) := by
  have hu := slice_und hte ht
  obtain ⟨⟨i, z, h2, h3, h4, h5, h6, h7⟩, h8⟩ := teOk_look hte he
  rcases hA with ⟨rfl, rfl, rfl⟩ | ⟨ad, rfl, hc⟩
  · refine ⟨v, w, run_append_of_nil w 0 t ty e i inf.sz hu h2 v n us hown c, by simpa using hown, World.grownBy.refl w _, .inl rfl⟩
  · obtain ⟨v', w', h9, h10, h11, _, h12⟩ := run_append_own_at (P := P) w 0 t ty e i z inf.sz inf.by' hu h2 h5 h3 h4 h7 hsz v n us hown ad m c ns hl hc h1 h63 hbytes (Nat.zero_le _)
    exact ⟨v', w', h9, h10, h11, h12⟩
/-- The operands of an append of two slices of one type. -/
def appOf : Op → Option (Operand × Operand × Nat)
  | .call c => match c.callee with
    | .builtin .append => match c.args.toList, c.argTypes.toList with
      | [x, y], [t, t'] => bif Nat.beq t t' then some (x, y, t) else none
      | _, _ => none
    | _ => none
  | _ => none
theorem es_app {x y : Operand} {t e n m : Nat} {sz' b'' : Nat} {zs'' xs ys : List CV} {inf : TInf} {hp0 hp1 : List (Nat × Ob)} {md : List Nat} {vx vy : AV} (hte : teOk E.P te = true) (hop : appOf o.op = some (x, y, t)) (ht : look t te = some ⟨.slice e, sz', b'', zs''⟩) (he : look e te = some inf)
    (hx : s.eval x = some vx) (hy : s.eval y = some vy) (hb : baseOf s e inf.sz vx = some (n, xs, hp0, md)) (hsr : srcOf hp0 vy = some (m, ys, hp1)) (hlx : xs.length = n * inf.sz) (hly : ys.length = m * inf.sz) (h63 : n + m ≤ maxLen) (hbytes : (n + m) * inf.by' ≤ 140737488355328)
    (hsz : Nat.blt 0 inf.sz = true) (hd : dok E.nt o.dst = true) (hQ : Q (({ fr := s.fr, hp := (s.nx, .arr e inf.sz (xs ++ ys)) :: hp1, nx := s.nx + 1 } : AS).putd o.dst (.h (.sl s.nx 0 (n + m))))) : ES E s o (some md) Q := by
  intro g im a w K QQ ⟨fps, hs⟩ hK
  have hsz' : 0 < inf.sz := Nat.lt_of_succ_le (Nat.le_of_ble_eq_true hsz)
  obtain ⟨us, fx, fr, f0, hown, hrx, hh0, hn0, hs0, hfx, hob, hob'⟩ := base_sound hs hb hlx (hs.eval hx)
  obtain ⟨A, c, ns, fy, f1, e2, hnl, hry, hh1, hn1, hs1, hA, hm0⟩ := src_sound hh0 (List.nodup_append.1 hn0).2.1 hsz' hsr hly (hs.eval hy)
  obtain ⟨v', w', hrun, hown', hgb, hblk⟩ := run_append hte ht he hsz' o.type (a.eval x) n us hown A m c ns hnl (RHs_one _ _ _ hry) hA h63 hbytes
  have hexec : (execOp a.eval o).run E.P w = .ok (.value v') w' := by
    unfold appOf at hop
    split at hop
    · rename_i c' ho
      split at hop
      · rename_i hc
        split at hop
        · rename_i x' y' t1 t2 hargs htys
          cases hbt : Nat.beq t1 t2 with
          | false => rw [hbt] at hop; simp at hop
          | true =>
            rw [hbt] at hop
            simp only [cond_true, Option.some.injEq, Prod.mk.injEq] at hop
            obtain ⟨rfl, rfl, rfl⟩ := hop
            obtain rfl : t1 = t2 := Nat.eq_of_beq_eq_true hbt
            have ha : ∀ {α : Type} {l : Array α} {l' : List α}, l.toList = l' → l = l'.toArray := fun h => by rw [← h]
            simp only [execOp, ho, resolve, hc, ha hargs, ha htys, invoke, builtin, Sem.run_bind, Sem.run_pure, Result.andThen_ok, List.map_toArray, List.map_cons, List.map_nil, e2, hrun]
        · cases hop
      · cases hop
    · cases hop
  -- the new object
  have hdis := (List.nodup_append.1 hn0).2.2
  have hfr : ∀ b ∈ fr, b ∈ fps := fun b hb => hs0 b (List.mem_append_left _ hb)
  have hf1 : ∀ b ∈ fy ++ f1, b ∈ fps := fun b hb => hs0 b (List.mem_append_right _ (hs1 b hb))
  have hk : ∀ b, b < w.heap.size → (a.eval x).ownBlock ≠ some b → w'.heap[b]? = w.heap[b]? := fun b h1 h2 => hgb.block b h1 (fun e => h2 e.symm)
  have hob1 : ∀ b, (a.eval x).ownBlock = some b → b ∈ fr := fun b h => by rw [(hob b h).1]; exact List.mem_cons_self
  have hnfr := (List.nodup_append.1 hn0).1
  have hxk : ∀ b ∈ fx, w'.heap[b]? = w.heap[b]? := fun b hb => hk b (hs.lt b (hfr b (hfx.subset hb))) fun e => by
    rw [(hob b e).1, List.nodup_cons] at hnfr
    exact hnfr.1 hb
  have hyk : ∀ b ∈ fy, w'.heap[b]? = w.heap[b]? := fun b hb => hk b (hs.lt b (hf1 b (List.mem_append_left _ hb))) fun e => hdis b (hob1 b e) b (hs1 b (List.mem_append_left _ hb)) rfl
  have hik : ∀ t b, im t b → im t b ∧ w'.heap[b]? = w.heap[b]? := fun t b h => ⟨h, hk b (hs.il t b h) fun e => hs.ni b (hfr b (hob1 b e)) t h⟩
  have hrx' := RHs_mono (fun _ _ h => h) hik _ _ _ hxk hrx
  have hry' := RHs_mono (fun _ _ h => h) hik _ _ _ hyk hry
  have hall : RHs g im w' ((xs ++ ys).map HV.c) (us ++ ns) (fx ++ fy) := by rw [List.map_append]; exact RHs_append _ _ _ _ _ _ hrx' hry'
  have hnxy : (fx ++ fy).Nodup := by
    rw [List.nodup_append]
    exact ⟨hnfr.sublist hfx, (List.nodup_append.1 hn1).1, fun a ha b hb e => hdis a (hfx.subset ha) b (hs1 b (List.mem_append_left _ hb)) e⟩
  -- which block
  have hbix : ∃ bi : BI, bi.ty = e ∧ bi.e = inf.sz ∧ n + m ≤ bi.cap ∧ bi.cap ≤ maxLen ∧ v' = slv bi.a (0 * bi.e) (n + m) (bi.cap - 0) ∧ bi.a = v'.ownBlock ∧
      ((bi.a = none ∧ xs ++ ys = [] ∧ bi.cap = 0 ∧ fx ++ fy = []) ∨ ∃ b cur, bi.a = some b ∧ w'.heap[b]? = some (.cells cur e (0, 0)) ∧ cur.size = bi.cap * inf.sz ∧ RL im w' b (xs ++ ys) 0 (fx ++ fy)) := by
    obtain ⟨h1, ⟨rfl, h2⟩ | ⟨b, cap, cur, rfl, _, h3, h4, h5, h6, h7⟩⟩ := hown'
    · refine ⟨⟨none, 0, e, inf.sz⟩, rfl, rfl, by simp; omega, Nat.zero_le _, by rw [h2]; rfl, rfl, .inl ⟨rfl, ?_, rfl, ?_⟩⟩
      · have : (xs ++ ys).length = 0 := by
          rw [List.length_append, hlx, hly]
          have hn0' : n = 0 := by omega
          have hm0' : m = 0 := by omega
          rw [hn0', hm0']
          simp
        exact List.eq_nil_of_length_eq_zero this
      · have e0 : us ++ ns = [] := List.eq_nil_of_length_eq_zero (by rw [h1, h2, Nat.zero_mul])
        have : (xs ++ ys).map HV.c = [] := by
          have := RHs_length _ _ _ hall
          rw [e0] at this
          exact List.eq_nil_of_length_eq_zero this.symm
        rw [this, e0] at hall
        exact hall.2
    · refine ⟨⟨some b, cap, e, inf.sz⟩, rfl, rfl, h4, h5, by simp [slv], rfl, .inr ⟨b, cur, rfl, h3, h6, RHs_RL _ _ 0 _ hall fun j u hj => ?_⟩⟩
      rw [Nat.zero_add, cell_of_row w' b j cur e (0, 0) h3, ← Array.getElem?_toList]
      rw [← h7, List.getElem?_take] at hj
      split at hj
      · exact hj
      · cases hj
  obtain ⟨bi, hty, hes, hcap, hmx, hv', hba, hro⟩ := hbix
  have hszle := hgb.size
  have hblt : ∀ b, bi.a = some b → b < w'.heap.size := by
    intro b hb
    rcases hro with ⟨h, _⟩ | ⟨b', cur, h1, h2, _⟩
    · rw [hb] at h; cases h
    · rw [hb] at h1
      injection h1 with h1
      subst h1
      exact (Array.getElem?_eq_some_iff.1 h2).1
  have hwhere : ∀ b, bi.a = some b → (a.eval x).ownBlock = some b ∨ w.heap.size = b := by
    intro b hb
    rw [hba] at hb
    rcases hblk with h | h
    · left; rw [← h]; exact hb
    · right; rw [h] at hb; injection hb
  -- the footprint
  have hperm : ∀ c ∈ (fr ++ fy) ++ f1, c ∈ fps := by
    intro c hc
    rcases List.mem_append.1 hc with hc | hc
    · rcases List.mem_append.1 hc with hc | hc
      · exact hfr c hc
      · exact hf1 c (List.mem_append_left _ hc)
    · exact hf1 c (List.mem_append_right _ hc)
  have hnn : ((fr ++ fy) ++ f1).Nodup := by
    rw [List.append_assoc, List.nodup_append]
    exact ⟨hnfr, hn1, fun a ha b hb e => hdis a ha b (hs1 b hb) e⟩
  let f' : List Nat := match bi.a with | some b => b :: (fx ++ fy) | none => []
  have hro' : RO (gup g s.nx bi) im w' bi (.arr e inf.sz (xs ++ ys)) f' := by
    refine ⟨hty, hes, ?_⟩
    rcases hro with ⟨h1, h2, h3, h4⟩ | ⟨b, cur, h1, h2, h3, h4⟩
    · left; exact ⟨h1, h2, h3, by simp only [f', h1]⟩
    · right; exact ⟨b, cur, fx ++ fy, h1, by simp only [f', h1], h2, h3, h4⟩
  have hnf' : f'.Nodup := by
    simp only [f']
    split
    · rename_i b hb
      rw [List.nodup_cons]
      refine ⟨fun hm => ?_, hnxy⟩
      rcases hwhere b hb with h | h
      · rcases List.mem_append.1 hm with hm | hm
        · rw [(hob b h).1, List.nodup_cons] at hnfr
          exact hnfr.1 hm
        · exact hdis b (hob1 b h) b (hs1 b (List.mem_append_left _ hm)) rfl
      · rcases List.mem_append.1 hm with hm | hm
        · have := hs.lt b (hfr b (hfx.subset hm)); omega
        · have := hs.lt b (hf1 b (List.mem_append_left _ hm)); omega
    · exact List.nodup_nil
  have hf'm : ∀ c ∈ f', c ∈ fr ++ fy ∨ w.heap.size ≤ c := by
    intro c hc
    simp only [f'] at hc
    split at hc
    · rename_i b hb
      rcases List.mem_cons.1 hc with rfl | hc
      · rcases hwhere _ hb with h | h
        · exact .inl (List.mem_append_left _ (hob1 _ h))
        · exact .inr (by omega)
      · rcases List.mem_append.1 hc with hc | hc
        · exact .inl (List.mem_append_left _ (hfx.subset hc))
        · exact .inl (List.mem_append_right _ hc)
    · cases hc
  have hf'l : ∀ c ∈ f', c < w'.heap.size := by
    intro c hc
    rcases hf'm c hc with h | h
    · have := hs.lt c (hperm c (List.mem_append_left _ h)); omega
    · simp only [f'] at hc
      split at hc
      · rename_i b hb
        rcases List.mem_cons.1 hc with rfl | hc
        · exact hblt _ hb
        · rcases List.mem_append.1 hc with hc | hc
          · have := hs.lt c (hfr c (hfx.subset hc)); omega
          · have := hs.lt c (hf1 c (List.mem_append_left _ hc)); omega
      · cases hc
  have hsim := hs.swap (fr := fr ++ fy) (f' := f') (w' := w') hh1 hnn hperm bi (.arr e inf.sz (xs ++ ys)) (fun b h1 h2 => hk b h1 fun e => h2 (List.mem_append_left _ (hob1 b e))) hszle hgb.os hgb.tape hgb.output hnf' hf'm hf'l hblt hro'
  unfold Oper.wp
  rw [hexec]
  refine hK _ im _ _ w' (fun b => (a.eval x).ownBlock = some b) ⟨_, hsim.putd (dok_lt hd) (v := v') ?_⟩ hQ (Chg.swap hs.gn (fun b hb => ?_) (fun b hb t => hs.ni b (hfr b (hob1 b hb)) t) (fun b hb => ?_) hszle) ?_
  · simp only [RA, RH]
    exact ⟨trivial, bi, by simp [gup], by omega, hmx, hv'⟩
  · rcases hwhere b hb with h | h
    · exact .inr h
    · exact .inl (by omega)
  · by_cases h : (a.eval x).ownBlock = some b
    · exact .inl h
    · exact .inr (hk b hb h)
  · intro m hm b hb
    injection hm with hm
    subst hm
    exact (hob b hb).2
end
end Go.Proofs.Ytjijkdhjfanpaaa
