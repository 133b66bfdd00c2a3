/- The engine, part v: rows appended to rows, cuts of rows, also in regions that draw. -/
import Derived.Test.YtjijkdhjfanpaaaEs
namespace Go.Proofs.Ytjijkdhjfanpaaa
open Go.RowKit
section
variable {E : Env} {l rest : List Oper} {fr : List (Nat × AV)} {hp : List (Nat × Ob)} {nx : Nat} {o : Oper} {Q : Exit → AS → Prop} {d : Nat}
variable {cert : CT} {nr : Nat} {os ms : List Nat} {fl : Bool} {k : AS → Prop} {i : Nat} {oi : Oper}
variable {α : Type} {f : α → List CV}
/-- append of one element that is written out. -/
theorem eAp1 {x y : Operand} {t e n id id1 ty1 e1 : Nat} {sz' b'' : Nat} {zs'' : List CV} {inf : TInf} {L : List α} (a : α) {hp1 : List (Nat × Ob)} (ho : appOf o.op = some (x, y, t)) (ht : look t E.te = some ⟨.slice e, sz', b'', zs''⟩) (he : look e E.te = some inf)
    (hx : AS.eval ⟨fr, hp, nx⟩ x = some (.h (.sl id 0 n))) (hy : AS.eval ⟨fr, hp, nx⟩ y = some (.h (.sl id1 0 1))) (hb : look id hp = some (.arr e inf.sz (rows f L))) (hsr : look id1 (del id hp) = some (.arr ty1 e1 (f a))) (hh : del id1 (del id hp) = hp1) (hsz : Nat.blt 0 inf.sz = true)
    (hd : o.dst = some d) (hn : Nat.blt d E.nt = true) (hf : ∀ a, (f a).length = inf.sz) (hnl : n = L.length) (hle : n ≤ 1099511627776) (hby : Nat.ble inf.by' 100 = true) :
    ES E ⟨fr, hp, nx⟩ o (some [id]) (fun x => x = ⟨(d, .h (.sl nx 0 (n + 1))) :: fr, (nx, .arr e inf.sz (rows f (L ++ [a]))) :: hp1, nx + 1⟩) := by
  refine eApp ho ht he hx hy (n := n) (xs := rows f L) (hp0 := del id hp) (md := [id]) ?_ (m := 1) (ys := f a) (hp1 := hp1) ?_ hsz hd hn ?_ ?_ ?_ ?_ ?_
  · simp only [baseOf, hb, Nat.beq_refl, Bool.and_self, cond_true]
  · simp only [srcOf, hsr, hh]
  · rw [rows_length hf, hnl]
  · rw [hf]; omega
  · omega
  · have : inf.by' ≤ 100 := Nat.le_of_ble_eq_true hby
    calc (n + 1) * inf.by' ≤ (n + 1) * 100 := Nat.mul_le_mul_left _ this
      _ ≤ 140737488355328 := by omega
  · rw [rows_append, rows_one]
theorem dAp1 {x y : Operand} {t e n id id1 ty1 e1 : Nat} {sz' b'' : Nat} {zs'' : List CV} {inf : TInf} {L : List α} (a : α) {hp1 : List (Nat × Ob)} (hi : nth l i = some oi) (ho : appOf oi.op = some (x, y, t)) (ht : look t E.te = some ⟨.slice e, sz', b'', zs''⟩) (he : look e E.te = some inf)
    (hx : AS.eval ⟨fr, hp, nx⟩ x = some (.h (.sl id 0 n))) (hy : AS.eval ⟨fr, hp, nx⟩ y = some (.h (.sl id1 0 1))) (hb : look id hp = some (.arr e inf.sz (rows f L))) (hsr : look id1 (del id hp) = some (.arr ty1 e1 (f a))) (hh : del id1 (del id hp) = hp1) (hsz : Nat.blt 0 inf.sz = true)
    (hg : gdv l ⟨fr, hp, nx⟩ oi = some true) (hd : oi.dst = some d) (hn : Nat.blt d E.nt = true) (hm : [id].all (fun id => ms.contains id || Nat.ble nr id) = true) (hf : ∀ a, (f a).length = inf.sz) (hnl : n = L.length) (hle : n ≤ 1099511627776) (hby : Nat.ble inf.by' 100 = true)
    (kk : AH E l cert nr os ms false ⟨(d, .h (.sl nx 0 (n + 1))) :: fr, (nx, .arr e inf.sz (rows f (L ++ [a]))) :: hp1, nx + 1⟩ k) : AH E l (CT.cons (i, false) cert) nr os ms fl ⟨fr, hp, nx⟩ k :=
  dE hi (eAp1 a ho ht he hx hy hb hsr hh hsz hd hn hf hnl hle hby) hg hm (Nat.ble_eq_true_of_le (Nat.le_succ _)) kk
/-- append of a row that is only read. -/
theorem eApR {x y : Operand} {t e n m id tg : Nat} {sz' b'' : Nat} {zs'' : List CV} {inf : TInf} {L M : List α} {hp1 : List (Nat × Ob)} (ho : appOf o.op = some (x, y, t)) (ht : look t E.te = some ⟨.slice e, sz', b'', zs''⟩) (he : look e E.te = some inf)
    (hx : AS.eval ⟨fr, hp, nx⟩ x = some (.h (.sl id 0 n))) (hy : AS.eval ⟨fr, hp, nx⟩ y = some (.h (.c (.rd tg m (rows f M))))) (hb : look id hp = some (.arr e inf.sz (rows f L))) (hh : del id hp = hp1) (hsz : Nat.blt 0 inf.sz = true)
    (hd : o.dst = some d) (hn : Nat.blt d E.nt = true) (hf : ∀ a, (f a).length = inf.sz) (hnl : n = L.length) (hml : m = M.length) (hle : n + m ≤ 1099511627776) (hby : Nat.ble inf.by' 100 = true) :
    ES E ⟨fr, hp, nx⟩ o (some [id]) (fun x => x = ⟨(d, .h (.sl nx 0 (n + m))) :: fr, (nx, .arr e inf.sz (rows f (L ++ M))) :: hp1, nx + 1⟩) := by
  refine eApp ho ht he hx hy (n := n) (xs := rows f L) (hp0 := hp1) (md := [id]) ?_ (m := m) (ys := rows f M) (hp1 := hp1) ?_ hsz hd hn ?_ ?_ ?_ ?_ ?_
  · simp only [baseOf, hb, Nat.beq_refl, Bool.and_self, cond_true, hh]
  · simp only [srcOf]
  · rw [rows_length hf, hnl]
  · rw [rows_length hf, hml]
  · omega
  · have : inf.by' ≤ 100 := Nat.le_of_ble_eq_true hby
    calc (n + m) * inf.by' ≤ (n + m) * 100 := Nat.mul_le_mul_left _ this
      _ ≤ 140737488355328 := by omega
  · rw [rows_append]
theorem pApR {x y : Operand} {t e n m id tg : Nat} {sz' b'' : Nat} {zs'' : List CV} {inf : TInf} {L M : List α} {hp1 : List (Nat × Ob)} (ho : appOf o.op = some (x, y, t)) (ht : look t E.te = some ⟨.slice e, sz', b'', zs''⟩) (he : look e E.te = some inf)
    (hx : AS.eval ⟨fr, hp, nx⟩ x = some (.h (.sl id 0 n))) (hy : AS.eval ⟨fr, hp, nx⟩ y = some (.h (.c (.rd tg m (rows f M))))) (hb : look id hp = some (.arr e inf.sz (rows f L))) (hh : del id hp = hp1) (hsz : Nat.blt 0 inf.sz = true)
    (hg : gdv l ⟨fr, hp, nx⟩ o = some true) (hd : o.dst = some d) (hn : Nat.blt d E.nt = true) (hf : ∀ a, (f a).length = inf.sz) (hnl : n = L.length) (hml : m = M.length) (hle : n + m ≤ 1099511627776) (hby : Nat.ble inf.by' 100 = true)
    (kk : AL E l rest ⟨(d, .h (.sl nx 0 (n + m))) :: fr, (nx, .arr e inf.sz (rows f (L ++ M))) :: hp1, nx + 1⟩ Q) : AL E l (o :: rest) ⟨fr, hp, nx⟩ Q :=
  pE (eApR ho ht he hx hy hb hh hsz hd hn hf hnl hml hle hby) hg kk
theorem dApR {x y : Operand} {t e n m id tg : Nat} {sz' b'' : Nat} {zs'' : List CV} {inf : TInf} {L M : List α} {hp1 : List (Nat × Ob)} (hi : nth l i = some oi) (ho : appOf oi.op = some (x, y, t)) (ht : look t E.te = some ⟨.slice e, sz', b'', zs''⟩) (he : look e E.te = some inf)
    (hx : AS.eval ⟨fr, hp, nx⟩ x = some (.h (.sl id 0 n))) (hy : AS.eval ⟨fr, hp, nx⟩ y = some (.h (.c (.rd tg m (rows f M))))) (hb : look id hp = some (.arr e inf.sz (rows f L))) (hh : del id hp = hp1) (hsz : Nat.blt 0 inf.sz = true)
    (hg : gdv l ⟨fr, hp, nx⟩ oi = some true) (hd : oi.dst = some d) (hn : Nat.blt d E.nt = true) (hm : [id].all (fun id => ms.contains id || Nat.ble nr id) = true) (hf : ∀ a, (f a).length = inf.sz) (hnl : n = L.length) (hml : m = M.length) (hle : n + m ≤ 1099511627776) (hby : Nat.ble inf.by' 100 = true)
    (kk : AH E l cert nr os ms false ⟨(d, .h (.sl nx 0 (n + m))) :: fr, (nx, .arr e inf.sz (rows f (L ++ M))) :: hp1, nx + 1⟩ k) : AH E l (CT.cons (i, false) cert) nr os ms fl ⟨fr, hp, nx⟩ k :=
  dE hi (eApR ho ht he hx hy hb hh hsz hd hn hf hnl hml hle hby) hg hm (Nat.ble_eq_true_of_le (Nat.le_succ _)) kk
/-- A cut of a row that is only read. -/
theorem pCutR {t e : Nat} {sz b' : Nat} {zs : List CV} {x : Operand} {lo hi : Option Operand} {tg n : Nat} {L : List α} {il ih : Int} {inf : TInf} (lw h : Nat) (ho : o.op = .slice t x lo hi none)
    (hx : AS.eval ⟨fr, hp, nx⟩ x = some (.h (.c (.rd tg n (rows f L))))) (hlo : bnd ⟨fr, hp, nx⟩ 0 lo = some il) (hhi : bnd ⟨fr, hp, nx⟩ n hi = some ih) (ht : look t E.te = some ⟨.slice e, sz, b', zs⟩) (he : look e E.te = some inf)
    (hg : gdv l ⟨fr, hp, nx⟩ o = some true) (hd : o.dst = some d) (hn : Nat.blt d E.nt = true) (hf : ∀ a, (f a).length = inf.sz) (hl : il = (lw : Int)) (hh : ih = (h : Int)) (h1 : lw ≤ h) (h2 : h ≤ n) (kk : AL E l rest ⟨(d, .h (.c (.rd tg (h - lw) (rows f ((L.drop lw).take (h - lw)))))) :: fr, hp, nx⟩ Q) : AL E l (o :: rest) ⟨fr, hp, nx⟩ Q :=
  pCut lw h ho hx hlo hhi ht he hg hd hn hl hh h1 h2 (by rw [rows_drop hf, rows_take hf]) kk
theorem dCutR {t e : Nat} {sz b' : Nat} {zs : List CV} {x : Operand} {lo hi' : Option Operand} {tg n : Nat} {L : List α} {il ih : Int} {inf : TInf} (lw h : Nat) (hi : nth l i = some oi) (ho : oi.op = .slice t x lo hi' none)
    (hx : AS.eval ⟨fr, hp, nx⟩ x = some (.h (.c (.rd tg n (rows f L))))) (hlo : bnd ⟨fr, hp, nx⟩ 0 lo = some il) (hhi : bnd ⟨fr, hp, nx⟩ n hi' = some ih) (ht : look t E.te = some ⟨.slice e, sz, b', zs⟩) (he : look e E.te = some inf)
    (hg : gdv l ⟨fr, hp, nx⟩ oi = some true) (hd : oi.dst = some d) (hn : Nat.blt d E.nt = true) (hf : ∀ a, (f a).length = inf.sz) (hl : il = (lw : Int)) (hh : ih = (h : Int)) (h1 : lw ≤ h) (h2 : h ≤ n) (kk : AH E l cert nr os ms fl ⟨(d, .h (.c (.rd tg (h - lw) (rows f ((L.drop lw).take (h - lw)))))) :: fr, hp, nx⟩ k) : AH E l (CT.cons (i, true) cert) nr os ms fl ⟨fr, hp, nx⟩ k :=
  dCut lw h hi ho hx hlo hhi ht he hg hd hn hl hh h1 h2 (by rw [rows_drop hf, rows_take hf]) kk
end
end Go.Proofs.Ytjijkdhjfanpaaa
