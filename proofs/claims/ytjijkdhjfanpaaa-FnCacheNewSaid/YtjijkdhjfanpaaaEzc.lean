/- The engine: a plain row of the call's own is only read from here on. -/
import Derived.Test.YtjijkdhjfanpaaaEzb
namespace Go.Proofs.Ytjijkdhjfanpaaa
open Go.RowKit
def HV.fz (id T e : Nat) (xs : List CV) : HV → HV
  | .sl j 0 n => bif Nat.beq j id then .c (.rd T n xs) else .sl j 0 n
  | .sl j (i + 1) n => bif Nat.beq j id then .c (.rd T n (CV.brws T (xs.drop ((i + 1) * e)))) else .sl j (i + 1) n
  | .c x => .c x
  | .sw j i n => .sw j i n
  | .ptr j o => .ptr j o
  | .rp t ys => .rp t ys
def HV.fzs (id T e : Nat) (xs : List CV) : List HV → List HV
  | [] => []
  | y :: ys => y.fz id T e xs :: HV.fzs id T e xs ys
mutual
def AV.fz (id T e : Nat) (xs : List CV) : AV → AV
  | .h x => .h (x.fz id T e xs)
  | .agg ys => .agg (HV.fzs id T e xs ys)
  | .tup ys => .tup (AV.fzs id T e xs ys)
  | .top => .top
def AV.fzs (id T e : Nat) (xs : List CV) : List AV → List AV
  | [] => []
  | y :: ys => y.fz id T e xs :: AV.fzs id T e xs ys
end
def Ob.fz (id T e : Nat) (xs : List CV) : Ob → Ob
  | .arr ty e' ys => .arr ty e' ys
  | .box ty ys => .box ty (HV.fzs id T e xs ys)
  | .hrr ty e' ys => .hrr ty e' (HV.fzs id T e xs ys)
def fzF (id T e : Nat) (xs : List CV) : List (Nat × AV) → List (Nat × AV)
  | [] => []
  | (d, x) :: r => (d, x.fz id T e xs) :: fzF id T e xs r
def fzO (id T e : Nat) (xs : List CV) : List (Nat × Ob) → List (Nat × Ob)
  | [] => []
  | (d, x) :: r => (d, x.fz id T e xs) :: fzO id T e xs r
section
variable {id T e : Nat} {xs : List CV}
theorem HV.fz_eq (hb : CV.brws T xs = xs) (x : HV) : x.frz id T e xs = x.fz id T e xs := by
  cases x with
  | sl j i n =>
    cases i with
    | zero => simp only [HV.frz, HV.fz, Nat.zero_mul, List.drop_zero, hb]
    | succ i => rfl
  | _ => rfl
theorem HV.fzs_eq (hb : CV.brws T xs = xs) : ∀ ys : List HV, HV.frzs id T e xs ys = HV.fzs id T e xs ys
  | [] => rfl
  | y :: ys => by simp only [HV.frzs, HV.fzs, HV.fz_eq hb, HV.fzs_eq hb ys]
mutual
theorem AV.fz_eq (hb : CV.brws T xs = xs) : ∀ x : AV, x.frz id T e xs = x.fz id T e xs
  | .h x => by simp only [AV.frz, AV.fz, HV.fz_eq hb]
  | .agg ys => by simp only [AV.frz, AV.fz, HV.fzs_eq hb]
  | .tup ys => by simp only [AV.frz, AV.fz, AV.fzs_eq hb ys]
  | .top => by simp only [AV.frz, AV.fz]
theorem AV.fzs_eq (hb : CV.brws T xs = xs) : ∀ ys : List AV, AV.frzs id T e xs ys = AV.fzs id T e xs ys
  | [] => by simp only [AV.frzs, AV.fzs]
  | y :: ys => by simp only [AV.frzs, AV.fzs, AV.fz_eq hb y, AV.fzs_eq hb ys]
end
theorem fzF_eq (hb : CV.brws T xs = xs) : ∀ fr : List (Nat × AV), frzF id T e xs fr = fzF id T e xs fr
  | [] => rfl
  | (d, x) :: r => by simp only [frzF, fzF, AV.fz_eq hb, fzF_eq hb r]
theorem fzO_eq (hb : CV.brws T xs = xs) : ∀ hp : List (Nat × Ob), frzO id T e xs hp = fzO id T e xs hp
  | [] => rfl
  | (d, x) :: r => by
    have : x.frz id T e xs = x.fz id T e xs := by
      cases x with
      | arr => rfl
      | box ty ys => simp only [Ob.frz, Ob.fz, HV.fzs_eq hb]
      | hrr ty e' ys => simp only [Ob.frz, Ob.fz, HV.fzs_eq hb]
    simp only [frzO, fzO, this, fzO_eq hb r]
end
section
variable {E : Env} {l rest : List Oper} {fr : List (Nat × AV)} {hp : List (Nat × Ob)} {nx : Nat} {Q : Exit → AS → Prop}
theorem al_frz (id T : Nat) (hT : Nat.ble 100 T = true) {ty e : Nat} {xs : List CV} (hl : look id hp = some (.arr ty e xs)) (hb : Plain xs) (kk : AL E l rest ⟨fzF id T e xs fr, fzO id T e xs (del id hp), nx⟩ Q) : AL E l rest ⟨fr, hp, nx⟩ Q := by
  refine al_freeze id T hT hl ?_
  rw [fzF_eq (hb T), fzO_eq (hb T)]
  exact kk
theorem awp_frz {c : Code} (id T : Nat) (hT : Nat.ble 100 T = true) {ty e : Nat} {xs : List CV} (hl : look id hp = some (.arr ty e xs)) (hb : Plain xs) (kk : AWP E c ⟨fzF id T e xs fr, fzO id T e xs (del id hp), nx⟩ Q) : AWP E c ⟨fr, hp, nx⟩ Q := by
  refine awp_freeze id T hT hl ?_
  rw [fzF_eq (hb T), fzO_eq (hb T)]
  exact kk
end
end Go.Proofs.Ytjijkdhjfanpaaa
