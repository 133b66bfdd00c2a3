/- The engine, part w: calls that hand back a row with a plain value beside it. -/
import Derived.Test.YtjijkdhjfanpaaaEv
namespace Go.Proofs.Ytjijkdhjfanpaaa
open Go.RowKit
section
variable {E : Env} {l rest : List Oper} {fr : List (Nat × AV)} {hp : List (Nat × Ob)} {nx : Nat} {o : Oper} {Q : Exit → AS → Prop} {d : Nat}
variable {cert : CT} {nr : Nat} {os ms : List Nat} {fl : Bool} {k : AS → Prop} {i : Nat} {oi : Oper}
variable {f : FuncId} {as : List Operand} {xs ys : List AV} {rt : List Nat}
theorem pCt {ty e n : Nat} {zs : List CV} {y : CV} (hc : AC E.P f ys [] rt (fun r h => h = [.arr ty e zs] ∧ r = .tup [.h (.sl 0 0 n), .h (.c y)])) (hop : callOf ⟨fr, hp, nx⟩ o.op = some (f, as)) (hev : AS.evals ⟨fr, hp, nx⟩ as = some xs) (hg : gdv l ⟨fr, hp, nx⟩ o = some true)
    (hd : o.dst = some d) (hn : Nat.blt d E.nt = true) (hT : 99 ∉ rt) (hb : BorAs hp [] 99 xs ys) (k : AL E l rest ⟨(d, .tup [.h (.sl nx 0 n), .h (.c y)]) :: fr, (nx, .arr ty e zs) :: hp, nx + 1⟩ Q) : AL E l (o :: rest) ⟨fr, hp, nx⟩ Q := by
  refine pC (eCall hc 99 [] hop hev rfl rfl hd hn hb hT) hg ?_
  rintro _ _ ⟨rfl, rfl⟩
  exact k
theorem dCt {ty e n : Nat} {zs : List CV} {y : CV} (hc : AC E.P f ys [] rt (fun r h => h = [.arr ty e zs] ∧ r = .tup [.h (.sl 0 0 n), .h (.c y)])) (hi : nth l i = some oi) (hop : callOf ⟨fr, hp, nx⟩ oi.op = some (f, as)) (hev : AS.evals ⟨fr, hp, nx⟩ as = some xs) (hg : gdv l ⟨fr, hp, nx⟩ oi = some true)
    (hd : oi.dst = some d) (hn : Nat.blt d E.nt = true) (hT : 99 ∉ rt) (hb : BorAs hp [] 99 xs ys) (kk : AH E l cert nr os ms false ⟨(d, .tup [.h (.sl nx 0 n), .h (.c y)]) :: fr, (nx, .arr ty e zs) :: hp, nx + 1⟩ k) : AH E l (CT.cons (i, false) cert) nr os ms fl ⟨fr, hp, nx⟩ k := by
  refine dC hc 99 [] hi hop hev rfl rfl rfl hg hd hn rfl hb hT ?_
  rintro _ _ ⟨rfl, rfl⟩
  exact kk
end
end Go.Proofs.Ytjijkdhjfanpaaa
