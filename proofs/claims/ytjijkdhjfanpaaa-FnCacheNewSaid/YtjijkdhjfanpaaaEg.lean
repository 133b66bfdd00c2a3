/- The engine, part g: arithmetic, places of elements, loads out of rows, cuts. -/
import Derived.Test.YtjijkdhjfanpaaaEf
import Derived.IntWalk
namespace Go.Proofs.Ytjijkdhjfanpaaa
open Go.RowKit

def arI : BinOp → Int → Int → Option Int
  | .add, a, b => some (a + b)
  | .sub, a, b => some (a - b)
  | .mul, a, b => some (a * b)
  | _, _, _ => none
section
variable {E : Env} {te : TE} {os : Option (List Nat)} {fl : Bool} {s : AS}
/-- A sum, a difference, a product that fits. -/
theorem ps_ar {op : BinOp} {t t' : TypeId} {x y : Operand} {a b r : Int} (hx : s.eval x = some (.h (.c (.int .i64 a)))) (hy : s.eval y = some (.h (.c (.int .i64 b)))) (hr : arI op a b = some r)
    (h1 : -9223372036854775808 ≤ r) (h2 : r ≤ 9223372036854775807) : PS E os fl s (.binOp op t x y t') (.h (.c (.int .i64 r))) := by
  intro g im ac w M n0 ⟨fps, hs⟩ hI
  have e1 := RA_int (hs.eval hx)
  have e2 := RA_int (hs.eval hy)
  refine ⟨_, RA_mkInt _ _, fun w' _ o ho => ?_⟩
  have hw := IntWalk.i64_in r ⟨h1, h2⟩
  cases op <;> simp [arI] at hr <;> subst hr <;> simp [execOp, ho, e1, e2, eqGuard, binOp, Op.intArith, hw]
/-- A quotient of numbers that are not below 0. -/
theorem ps_quo {t t' : TypeId} {x y : Operand} {a b : Int} (hx : s.eval x = some (.h (.c (.int .i64 a)))) (hy : s.eval y = some (.h (.c (.int .i64 b)))) (h0 : 0 ≤ a) (h1 : 0 < b) (h2 : a ≤ 9223372036854775807) :
    PS E os fl s (.binOp .quo t x y t') (.h (.c (.int .i64 (a / b)))) := by
  intro g im ac w M n0 ⟨fps, hs⟩ hI
  have e1 := RA_int (hs.eval hx)
  have e2 := RA_int (hs.eval hy)
  refine ⟨_, RA_mkInt _ _, fun w' _ o ho => ?_⟩
  have hb : b ≠ 0 := by omega
  have hd : a.tdiv b = a / b := Int.tdiv_eq_ediv_of_nonneg h0
  have hle : a / b ≤ a := Int.ediv_le_self b h0
  have hge : 0 ≤ a / b := Int.ediv_nonneg h0 (by omega)
  have hw := IntWalk.i64_in (a / b) ⟨by omega, by omega⟩
  simp [execOp, ho, e1, e2, eqGuard, binOp, Op.intDiv, hb, hd, hw]
theorem ps_rem {t t' : TypeId} {x y : Operand} {a b : Int} (hx : s.eval x = some (.h (.c (.int .i64 a)))) (hy : s.eval y = some (.h (.c (.int .i64 b)))) (h0 : 0 ≤ a) (h1 : 0 < b) :
    PS E os fl s (.binOp .rem t x y t') (.h (.c (.int .i64 (a % b)))) := by
  intro g im ac w M n0 ⟨fps, hs⟩ hI
  have e1 := RA_int (hs.eval hx)
  have e2 := RA_int (hs.eval hy)
  refine ⟨_, RA_mkInt _ _, fun w' _ o ho => ?_⟩
  have hb : b ≠ 0 := by omega
  have hd : a.tmod b = a % b := Int.tmod_eq_emod_of_nonneg h0
  simp [execOp, ho, e1, e2, eqGuard, binOp, Op.intDiv, hb, hd]
/-- A byte as an int. -/
theorem ps_conv {src dst : TypeId} {x : Operand} {k : IntKind} {a : Int} {inf inf' : TInf} (hte : teOk E.P te = true) (hx : s.eval x = some (.h (.c (.int k a)))) (hs1 : look src te = some inf) (hd1 : look dst te = some inf') (hd2 : inf'.d = .int .i64)
    (h0 : -9223372036854775808 ≤ a) (h1 : a ≤ 9223372036854775807) : PS E os fl s (.convert src dst x) (.h (.c (.int .i64 a))) := by
  intro g im ac w M n0 ⟨fps, hs⟩ hI
  have e1 := RA_int (hs.eval hx)
  refine ⟨_, RA_mkInt _ _, fun w' _ o ho => ?_⟩
  have hw := IntWalk.i64_in a ⟨h0, h1⟩
  have hu := (teOk_look hte hd1).und
  have hu' := (teOk_look hte hs1).und
  rw [hd2] at hu
  cases hp : E.P.underlying dst with
  | none => simp [TI.is, hp] at hu
  | some d =>
    cases d <;> simp [TI.is, hp] at hu
    subst hu
    cases hp' : E.P.underlying src with
    | none => rw [hp'] at hu'; cases hd : inf.d <;> simp [TI.is, hd] at hu'
    | some d' =>
      simp [execOp, ho, e1, convert, run_underlying hp, run_underlying hp', Conv.intToInt, hw]
theorem slice_und {P : Program} (hte : teOk P te = true) {t e sz b' : Nat} {zs : List CV} (ht : look t te = some ⟨.slice e, sz, b', zs⟩) : P.underlying t = some (.slice e) := by
  have hu := und_of hte ht
  cases hp : P.underlying t with
  | none => simp [TI.is, hp] at hu
  | some d =>
    cases d <;> simp [TI.is, hp] at hu
    rw [hu]
/-- The place of an element of a slice that is only read. -/
theorem ps_ix {t e : Nat} {sz b' : Nat} {zs : List CV} {x ix : Operand} {tg n : Nat} {xs : List CV} {i : Int} {inf : TInf} (k : Nat) {y : CV} {ys : List CV} (hte : teOk E.P te = true)
    (hx : s.eval x = some (.h (.c (.rd tg n xs)))) (hi : s.eval ix = some (.h (.c (.int .i64 i)))) (hk : i = (k : Int)) (hn : k < n) (ht : look t te = some ⟨.slice e, sz, b', zs⟩) (he : look e te = some inf)
    (hd : xs.drop (k * inf.sz) = y :: ys) : PS E os fl s (.indexAddr t x ix) (.h (.rp tg (y :: ys))) := by
  intro g im ac w M n0 ⟨fps, hs⟩ hI
  have hv := hs.eval hx
  have e2 := RA_int (hs.eval hi)
  simp only [RA, RH, R] at hv
  obtain ⟨_, A, c, e1, h3, h4, h5⟩ := hv
  subst hk
  rcases h5 with h5 | ⟨b, o, hA, him, hr⟩
  · rw [h5] at hd; simp at hd
  · obtain ⟨f', hf', hr'⟩ := RL_drop xs (k * inf.sz) o [] hr
    rw [hd] at hr'
    refine ⟨.pointer (some ⟨b, o + k * inf.sz, none⟩), ?_, fun w' _ oo ho => ?_⟩
    · simp only [RA, RH]
      exact ⟨trivial, b, _, rfl, him, RL_nofp hr' hf'⟩
    · have hu := slice_und hte ht
      have hs' := size_of hte he w'
      simp [execOp, ho, e1, e2, hA, Instr.indexAt, asIntOf, run_underlying hu, hs', hn, addr_add]
/-- The place of an element of a slice that is owned. -/
theorem ps_ixo {t e : Nat} {sz b' : Nat} {zs : List CV} {x ix : Operand} {id j n : Nat} {ty e' : Nat} {xs : List CV} {i : Int} {inf : TInf} (k : Nat) (hte : teOk E.P te = true)
    (hx : s.eval x = some (.h (.sl id j n))) (hi : s.eval ix = some (.h (.c (.int .i64 i)))) (hk : i = (k : Int)) (hn : k < n) (ht : look t te = some ⟨.slice e, sz, b', zs⟩) (he : look e te = some inf)
    (ho : look id s.hp = some (.arr ty e' xs)) (hes : e' = inf.sz) : PS E os fl s (.indexAddr t x ix) (.h (.ptr id ((j + k) * inf.sz))) := by
  intro g im ac w M n0 ⟨fps, hs⟩ hI
  have hv := hs.eval hx
  have e2 := RA_int (hs.eval hi)
  simp only [RA, RH] at hv
  obtain ⟨_, bi, hg, h3, h4, e1⟩ := hv
  subst hk hes
  obtain ⟨bi', f1, f2, f3, hg', hf, hro⟩ := look_HR hs.hp ho
  obtain rfl : bi = bi' := by rw [hg] at hg'; exact Option.some.inj hg'
  obtain ⟨h5, h6, ⟨_, _, h8, _⟩ | ⟨b, cur, f, h7, _⟩⟩ := hro
  · omega
  · refine ⟨.pointer (some ⟨b, (j + k) * inf.sz, none⟩), ?_, fun w' _ oo ho => ?_⟩
    · simp only [RA, RH]
      exact ⟨trivial, bi, b, hg, h7, rfl⟩
    · have hu := slice_und hte ht
      have hs' := size_of hte he w'
      rw [h7, h6] at e1
      simp [execOp, ho, e1, slv, e2, Instr.indexAt, asIntOf, run_underlying hu, hs', hn, addr_add, Nat.add_mul]
/-- A load out of a row that is owned. -/
theorem ps_ldo {t : Nat} {x : Operand} {id o : Nat} {ty e : Nat} {xs zs : List CV} {inf : TInf} {v : AV} (hte : teOk E.P te = true)
    (hx : s.eval x = some (.h (.ptr id o))) (ho : look id s.hp = some (.arr ty e xs)) (hl : look t te = some inf) (hid : okid os id = true) (hd : xs.drop o = zs)
    (h : loadH inf ((zs.take inf.sz).map HV.c) = some v) : PS E os fl s (.load t x) v := by
  intro g im ac w M n0 ⟨fps, hs⟩ hI
  have hv := hs.eval hx
  simp only [RA, RH] at hv
  obtain ⟨_, bi, b, hg, hba, e1⟩ := hv
  obtain ⟨bi', f1, f2, f3, hg', hf, hro⟩ := look_HR hs.hp ho
  obtain rfl : bi = bi' := by rw [hg] at hg'; exact Option.some.inj hg'
  obtain ⟨h5, h6, ⟨h7, _⟩ | ⟨b', cur, f, h7, rfl, h9, h10, h11⟩⟩ := hro
  · rw [hba] at h7; cases h7
  · obtain rfl : b = b' := by rw [hba] at h7; exact Option.some.inj h7
    obtain ⟨g1, hg1, hr1⟩ := RL_drop xs o 0 f h11
    rw [hd] at hr1
    simp only [Nat.zero_add] at hr1
    obtain ⟨g2, hg2, hr2⟩ := RL_take zs inf.sz o g1 hr1
    obtain ⟨us, hus, hcell⟩ := RL_RHs (g := g) _ _ _ hr2
    obtain ⟨h1, h2⟩ := loadH_RA (teOk_look hte hl).one h hus
    refine ⟨_, h2, fun w' hw' oo ho' => ?_⟩
    have hsame := hw' b (hI.old id hid bi b hg hba).1 (hI.old id hid bi b hg hba).2
    have hrun := run_load_cells (P := E.P) hte hl w' b o (us.take inf.sz) h1 (fun j u hu => by
      rw [cell_of_same hsame]
      rw [List.getElem?_take] at hu
      split at hu
      · exact hcell j u hu
      · cases hu)
    simp only [execOp, ho', e1, Sem.run_bind, hrun, Result.andThen_ok, Sem.run_pure]

/-! ### cuts -/
def bnd (s : AS) (d : Nat) : Option Operand → Option Int
  | none => some (d : Int)
  | some x => match s.eval x with
    | some (.h (.c (.int .i64 i))) => some i
    | _ => none
theorem run_cut {P : Program} (hte : teOk P te = true) {t e sz b' : Nat} {zs : List CV} (ht : look t te = some ⟨.slice e, sz, b', zs⟩) {inf : TInf} (he : look e te = some inf) (w : World) (A : Option Addr) (n c l h : Nat) (lo hi : Option Value)
    (hlo : lo = none ∧ l = 0 ∨ lo = some (.int .i64 (l : Int))) (hhi : hi = none ∧ h = n ∨ hi = some (.int .i64 (h : Int))) (h1 : l ≤ h) (h2 : h ≤ c) (h3 : n ≤ c) :
    (Instr.sliceAt t (.slice A n c) lo hi none).run P w = .ok (.slice (if c = l then A else A.map (·.add (l * inf.sz))) (h - l) (c - l)) w := by
  have hu := slice_und hte ht
  have hs := size_of hte he w
  rcases hlo with ⟨rfl, rfl⟩ | rfl <;> rcases hhi with ⟨rfl, rfl⟩ | rfl <;>
    simp [Instr.sliceAt, Instr.slice, run_underlying hu, Instr.sliceBounds, Instr.sliceBound, asIntOf, hs, h1, h2]
/-- A cut of a slice that is only read. -/
theorem ps_cut {t e : Nat} {sz b' : Nat} {zs : List CV} {x : Operand} {lo hi : Option Operand} {tg n : Nat} {xs ys : List CV} {il ih : Int} {inf : TInf} (l h : Nat) (hte : teOk E.P te = true)
    (hx : s.eval x = some (.h (.c (.rd tg n xs)))) (hlo : bnd s 0 lo = some il) (hhi : bnd s n hi = some ih) (hl : il = (l : Int)) (hh : ih = (h : Int)) (h1 : l ≤ h) (h2 : h ≤ n) (ht : look t te = some ⟨.slice e, sz, b', zs⟩) (he : look e te = some inf)
    (hd : (xs.drop (l * inf.sz)).take ((h - l) * inf.sz) = ys) : PS E os fl s (.slice t x lo hi none) (.h (.c (.rd tg (h - l) ys))) := by
  intro g im ac w M n0 ⟨fps, hs⟩ hI
  have hv := hs.eval hx
  simp only [RA, RH, R] at hv
  obtain ⟨_, A, c, e1, h3, h4, h5⟩ := hv
  subst hl hh
  have key : ∀ w' : World, (Instr.sliceAt t (.slice A n c) (lo.map ac.eval) (hi.map ac.eval) none).run E.P w' = .ok (.slice (if c = l then A else A.map (·.add (l * inf.sz))) (h - l) (c - l)) w' := by
    intro w'
    refine run_cut hte ht he w' A n c l h _ _ ?_ ?_ h1 (by omega) h3
    · cases lo with
      | none => simp only [bnd, Option.some.injEq] at hlo; exact .inl ⟨rfl, by omega⟩
      | some o =>
        simp only [bnd] at hlo
        split at hlo
        · rename_i hi'
          injection hlo with hlo
          subst hlo
          exact .inr (by simp [RA_int (hs.eval hi')])
        · cases hlo
    · cases hi with
      | none => simp only [bnd, Option.some.injEq] at hhi; exact .inl ⟨rfl, by omega⟩
      | some o =>
        simp only [bnd] at hhi
        split at hhi
        · rename_i hi'
          injection hhi with hhi
          subst hhi
          exact .inr (by simp [RA_int (hs.eval hi')])
        · cases hhi
  refine ⟨_, ?_, fun w' _ oo ho => by simp only [execOp, ho, e1, Sem.run_bind, Option.map_none, key w', Result.andThen_ok, Sem.run_pure]; rfl⟩
  simp only [RA, RH, R]
  refine ⟨trivial, _, _, rfl, by omega, by omega, ?_⟩
  by_cases hys : ys = []
  · exact .inl hys
  · right
    have hlt : l < h := by
      rcases Nat.lt_or_ge l h with h' | h'
      · exact h'
      · exfalso; apply hys; rw [← hd, show h - l = 0 by omega]; simp
    rcases h5 with h5 | ⟨b, o, hA, him, hr⟩
    · exfalso; apply hys; rw [← hd, h5]; simp
    · obtain ⟨f', hf', hr'⟩ := RL_drop xs (l * inf.sz) o [] hr
      obtain ⟨f'', hf'', hr''⟩ := RL_take _ ((h - l) * inf.sz) _ _ hr'
      rw [hd] at hr''
      refine ⟨b, o + l * inf.sz, ?_, him, RL_nofp hr'' (hf''.trans hf')⟩
      rw [if_neg (by omega), hA]
      simp [addr_add]
end
end Go.Proofs.Ytjijkdhjfanpaaa
