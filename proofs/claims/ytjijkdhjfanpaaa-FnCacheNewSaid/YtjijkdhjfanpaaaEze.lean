/- The engine: more rules for regions that draw. -/
import Derived.Test.YtjijkdhjfanpaaaEzd
namespace Go.Proofs.Ytjijkdhjfanpaaa
open Go.RowKit
theorem ps_remT {E : Env} {os : Option (List Nat)} {fl : Bool} {s : AS} {t t' : TypeId} {x y : Operand} {a b : Int} (hx : s.eval x = some (.h (.c (.int .i64 a)))) (hy : s.eval y = some (.h (.c (.int .i64 b)))) (h1 : 0 < b) :
    PS E os fl s (.binOp .rem t x y t') (.h (.c (.int .i64 (a.tmod b)))) := by
  intro g im ac w M n0 ⟨fps, hs⟩ hI
  have e1 := RA_int (hs.eval hx)
  have e2 := RA_int (hs.eval hy)
  refine ⟨_, RA_mkInt _ _, fun w' _ o ho => ?_⟩
  have hb : b ≠ 0 := by omega
  simp [execOp, ho, e1, e2, eqGuard, binOp, Op.intDiv, hb]
section
variable {E : Env} {l rest : List Oper} {fr : List (Nat × AV)} {hp : List (Nat × Ob)} {nx : Nat} {o : Oper} {Q : Exit → AS → Prop} {d : Nat}
variable {cert : CT} {nr : Nat} {os ms : List Nat} {fl : Bool} {k : AS → Prop} {i : Nat} {oi : Oper} {s : AS}
/-- What only reads, where it is alone. -/
theorem d2PS {x : AV} (hi : nth l i = some oi) (h : PS E none true ⟨fr, hp, nx⟩ oi.op x) (hg : gdv l ⟨fr, hp, nx⟩ oi = some true) (hd : oi.dst = some d) (hn : Nat.blt d E.nt = true) (kk : AH E l cert nr os ms false ⟨(d, x) :: fr, hp, nx⟩ k) : AH E l (CT.cons (i, false) cert) nr os ms fl ⟨fr, hp, nx⟩ k :=
  ah_es (m := []) hi (es_of_ps (Q := fun s' => s' = AS.put ⟨fr, hp, nx⟩ d x) h (dok_of hd hn) (by rw [putd_of hd])) hg rfl (fun s' h => by rw [h]; exact Nat.le_refl _) fun s' h => by rw [h]; exact kk
/-- The rest of a division, of any number. -/
theorem dRemT {t t' : TypeId} {x y : Operand} {a b : Int} (hi : nth l i = some oi) (ho : oi.op = .binOp .rem t x y t') (hx : AS.eval ⟨fr, hp, nx⟩ x = some (.h (.c (.int .i64 a)))) (hy : AS.eval ⟨fr, hp, nx⟩ y = some (.h (.c (.int .i64 b))))
    (hg : gdv l ⟨fr, hp, nx⟩ oi = some true) (hd : oi.dst = some d) (hn : Nat.blt d E.nt = true) (h1 : 0 < b) (kk : AH E l cert nr os ms fl ⟨(d, .h (.c (.int .i64 (a.tmod b)))) :: fr, hp, nx⟩ k) : AH E l (CT.cons (i, true) cert) nr os ms fl ⟨fr, hp, nx⟩ k :=
  dPS hi (by rw [ho]; exact ps_remT hx hy h1) hg hd hn kk
/-- A load, alone, of an element of a row of the call's own. -/
theorem dLdN {α : Type} {f : α → List CV} {t : Nat} {x : Operand} {id off : Nat} {ty e : Nat} {L : List α} {inf : TInf} {v : AV} (m c : Nat) (hi : nth l i = some oi) (ho : oi.op = .load t x) (hx : AS.eval ⟨fr, hp, nx⟩ x = some (.h (.ptr id off))) (hob : look id hp = some (.arr ty e (rows f L))) (hl : look t E.te = some inf)
    (hg : gdv l ⟨fr, hp, nx⟩ oi = some true) (hd : oi.dst = some d) (hn : Nat.blt d E.nt = true) (hf : ∀ a, (f a).length = e) (hoff : off = m * e + c) (hc : c ≤ e) (hlt : m < L.length) (h : loadH inf ((((f L[m]).drop c ++ rows f (L.drop (m + 1))).take inf.sz).map HV.c) = some v) (kk : AH E l cert nr os ms false ⟨(d, v) :: fr, hp, nx⟩ k) : AH E l (CT.cons (i, false) cert) nr os ms fl ⟨fr, hp, nx⟩ k :=
  d2PS hi (by rw [ho]; exact ps_ldo E.hte hx hob hl rfl (by rw [hoff, ← List.drop_drop, rows_at hf hlt, List.drop_append_of_le_length (by rw [hf]; exact hc)]) h) hg hd hn kk
/-- A store into element m of a row of the call's own, from its cell c on. -/
theorem dStR {α : Type} {f : α → List CV} {t : TypeId} {x y : Operand} {id off : Nat} {v : AV} {ty e : Nat} {L : List α} {inf : TInf} (m c : Nat) (a' : α) (ys : List CV) (hi : nth l i = some oi) (ho : oi.op = .store t x y) (hx : AS.eval ⟨fr, hp, nx⟩ x = some (.h (.ptr id off))) (hy : AS.eval ⟨fr, hp, nx⟩ y = some v) (hv : cellsA v = some (ys.map HV.c))
    (hl : look id hp = some (.arr ty e (rows f L))) (ht : look t E.te = some inf) (hsz : Nat.beq ys.length inf.sz = true) (hg : gdv l ⟨fr, hp, nx⟩ oi = some true) (hd : oi.dst = none) (hm : [id].all (fun id => ms.contains id || Nat.ble nr id) = true) (hf : ∀ a, (f a).length = e) (hoff : off = m * e + c) (hc : Nat.ble (c + ys.length) e = true)
    (hlt : m < L.length) (ha : setL (f L[m]) c ys = f a') (kk : AH E l cert nr os ms false ⟨fr, upd id (.arr ty e (rows f (L.set m a'))) hp, nx⟩ k) : AH E l (CT.cons (i, false) cert) nr os ms fl ⟨fr, hp, nx⟩ k := by
  have hc' := Nat.le_of_ble_eq_true hc
  refine dE hi (eSta (zs := rows f (L.set m a')) ys ho hx hy hv hl ht hsz hd ?_ ?_) hg hm (Nat.ble_eq_true_of_le (Nat.le_refl _)) kk
  · rw [rows_length hf, hoff]
    calc m * e + c + ys.length = m * e + (c + ys.length) := by omega
      _ ≤ m * e + e := by omega
      _ = (m + 1) * e := by rw [Nat.succ_mul]
      _ ≤ L.length * e := Nat.mul_le_mul_right _ hlt
  · rw [hoff]; exact rows_setf hf hlt hc' ha
end
section
variable {E : Env} {l : List Oper} {fr : List (Nat × AV)} {hp : List (Nat × Ob)} {nx d : Nat} {cert : List (Nat × Bool)} {W : List Nat} {nr : Nat} {os ms os0 ms0 : List Nat} {early fl : Bool} {s : AS} {k : AS → Prop} {i : Nat} {oi : Oper}
theorem uBuild {t : TypeId} {parts : Array (Nat × Operand)} {fs : List (Nat × Nat)} {sz b' : Nat} {zs : List CV} {cs : List HV} (hi : nth l i = some oi) (ho : oi.op = .build t parts) (ht : look t E.te = some ⟨.struct fs, sz, b', zs⟩) (hlay : lay (plc E.te fs) ⟨fr, hp, nx⟩ (zs.map HV.c) parts.toList = some cs)
    (hg : gdv l ⟨fr, hp, nx⟩ oi = some true) (hd : oi.dst = some d) (hn : Nat.blt d E.nt = true) (kk : AH2 E l cert W nr os ms os0 ms0 early fl ⟨(d, .agg cs) :: fr, hp, nx⟩ k) : AH2 E l ((i, true) :: cert) W nr os ms os0 ms0 early fl ⟨fr, hp, nx⟩ k :=
  uPS hi (by rw [ho]; exact ps_build E.hte ht hlay) hg hd hn kk
/-- A load of a variable that a late writer will write. -/
theorem u1D {x : AV} (D : List Nat) (hi : nth l i = some oi) (h : aev E.te (some os0) fl ⟨fr, hp, nx⟩ oi.op = some x) (hg : gdv l ⟨fr, hp, nx⟩ oi = some true) (hd : oi.dst = some d) (hn : Nat.blt d E.nt = true) (hD : depOk .any l.toArray D i = true) (hW : W.all (fun j => D.contains j) = true) (hDc : D.all (fun d => d == i || cert.any (fun p => p.1 == d)) = true)
    (kk : AH2 E l cert W nr os ms os0 ms0 true fl ⟨(d, x) :: fr, hp, nx⟩ k) : AH2 E l ((i, true) :: cert) W nr os ms os0 ms0 true fl ⟨fr, hp, nx⟩ k :=
  ah2_psD D hi (ps_of_aev E.hte h) hg (dok_of hd hn) hD hW hDc (by rw [putd_of hd]; exact kk)
end
end Go.Proofs.Ytjijkdhjfanpaaa
