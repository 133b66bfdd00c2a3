/- The engine, part x: exclusive or; a reader that is handed to and fro. -/
import Derived.Test.YtjijkdhjfanpaaaEw
namespace Go.Proofs.Ytjijkdhjfanpaaa
open Go.RowKit
theorem i64_xor' (a b : Int) (h0 : 0 ≤ a) (h1 : a < 9223372036854775808) (h2 : 0 ≤ b) (h3 : b < 9223372036854775808) : IntKind.i64.wrap (((BitVec.ofInt 64 a) ^^^ (BitVec.ofInt 64 b)).toNat : Int) = ((a.toNat ^^^ b.toNat : Nat) : Int) := by
  obtain ⟨n, rfl⟩ : ∃ n : Nat, a = n := ⟨a.toNat, by omega⟩
  obtain ⟨m, rfl⟩ : ∃ m : Nat, b = m := ⟨b.toNat, by omega⟩
  have hn : n < 2 ^ 63 := by omega
  have hm : m < 2 ^ 63 := by omega
  have hx : n ^^^ m < 2 ^ 63 := Nat.xor_lt_two_pow hn hm
  rw [BitVec.ofInt_natCast, BitVec.ofInt_natCast, BitVec.toNat_xor, BitVec.toNat_ofNat, BitVec.toNat_ofNat, Nat.mod_eq_of_lt (by omega), Nat.mod_eq_of_lt (by omega)]
  simp only [Int.toNat_natCast]
  exact IntWalk.i64_in _ (by omega)
section
variable {E : Env} {te : TE} {os : Option (List Nat)} {fl : Bool} {s : AS}
theorem ps_xor {t t' : TypeId} {x y : Operand} {a b : Int} (hx : s.eval x = some (.h (.c (.int .i64 a)))) (hy : s.eval y = some (.h (.c (.int .i64 b)))) (h0 : 0 ≤ a) (h1 : a < 9223372036854775808) (h2 : 0 ≤ b) (h3 : b < 9223372036854775808) :
    PS E os fl s (.binOp .xor t x y t') (.h (.c (.int .i64 ((a.toNat ^^^ b.toNat : Nat) : Int)))) := by
  intro g im ac w M n0 ⟨fps, hs⟩ hI
  have e1 := RA_int (hs.eval hx)
  have e2 := RA_int (hs.eval hy)
  refine ⟨_, RA_mkInt _ _, fun w' _ o ho => ?_⟩
  have hw := i64_xor' a b h0 h1 h2 h3
  simp [execOp, ho, e1, e2, eqGuard, binOp, Op.intBits, IntKind.bits]
  exact hw
end
section
variable {E : Env} {l rest : List Oper} {fr : List (Nat × AV)} {hp : List (Nat × Ob)} {nx : Nat} {o : Oper} {Q : Exit → AS → Prop} {d : Nat}
theorem ps_top {os : Option (List Nat)} {fl : Bool} {s : AS} {x : Operand} : PS E os fl s (.assign x) .top := fun g im a w M n0 hs hI => ⟨a.eval x, by simp only [RA], fun w' _ o ho => by simp [execOp, ho]⟩
/-- A value of which nothing is asked. -/
theorem pTop {x : Operand} (ho : o.op = .assign x) (hg : gdv l ⟨fr, hp, nx⟩ o = some true) (hd : o.dst = some d) (hn : Nat.blt d E.nt = true) (k : AL E l rest ⟨(d, .top) :: fr, hp, nx⟩ Q) : AL E l (o :: rest) ⟨fr, hp, nx⟩ Q :=
  al_pd (by rw [ho]; exact ps_top) hg hd hn k
end
section
variable {E : Env} {l rest : List Oper} {fr : List (Nat × AV)} {hp : List (Nat × Ob)} {nx : Nat} {o : Oper} {Q : Exit → AS → Prop} {d : Nat}
theorem pXor {t t' : TypeId} {x y : Operand} {a b : Int} (ho : o.op = .binOp .xor t x y t') (hx : AS.eval ⟨fr, hp, nx⟩ x = some (.h (.c (.int .i64 a)))) (hy : AS.eval ⟨fr, hp, nx⟩ y = some (.h (.c (.int .i64 b))))
    (hg : gdv l ⟨fr, hp, nx⟩ o = some true) (hd : o.dst = some d) (hn : Nat.blt d E.nt = true) (h0 : 0 ≤ a) (h1 : a < 9223372036854775808) (h2 : 0 ≤ b) (h3 : b < 9223372036854775808) (k : ∀ r : Int, 0 ≤ r → r < 9223372036854775808 → AL E l rest ⟨(d, .h (.c (.int .i64 r))) :: fr, hp, nx⟩ Q) : AL E l (o :: rest) ⟨fr, hp, nx⟩ Q := by
  have hx' : a.toNat ^^^ b.toNat < 2 ^ 63 := Nat.xor_lt_two_pow (by omega) (by omega)
  exact al_pd (by rw [ho]; exact ps_xor hx hy h0 h1 h2 h3) hg hd hn (k _ (by omega) (by omega))
end
end Go.Proofs.Ytjijkdhjfanpaaa
