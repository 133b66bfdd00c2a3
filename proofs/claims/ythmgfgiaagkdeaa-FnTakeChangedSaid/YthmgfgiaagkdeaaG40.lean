import Derived.Test.YthmgfgiaagkdeaaG39
import Derived.Test.YthmgfgiaagkdeaaG16
namespace Go.Proofs.Ythmgfgiaagkdeaa
open Go.RowKit
attribute [local irreducible] AWP AL XT AC ES PS AH AH2 LpQ
theorem sameMixT_ac (t1 t2 : Nat) (m : Mx) (hm : SmM 1099511627776 m) : AC Try.prog 21 [mv t1 m, mv t2 m] [] [0] (fun r h => h = [] ∧ r = .h (.c (.bool true))) := by
  have := sameMix_ac t1 t2 m m hm hm
  simpa using this
theorem samePoolT_ac (t1 t2 : Nat) (l : List Pl) (hl : l.length ≤ 1099511627776) (hx : ∀ x ∈ l, x.pk.hd.length ≤ 1099511627776 ∧ x.pk.bd.length ≤ 1099511627776) : AC Try.prog 22 [.h (.c (.rd (t1 + 1) l.length (rows (prd (t1 + 1)) l))), .h (.c (.rd (t2 + 1) l.length (rows (prd (t2 + 1)) l)))] [] [0] (fun r h => h = [] ∧ r = .h (.c (.bool true))) := by
  have := samePool_ac t1 t2 l l hl hl hx hx
  simpa using this
theorem flush_cases {m : Mx} (hm : mxOk m = true) (all : Bool) : (all = false ∧ m.pool.length < 2 ∧ flM m all = m ∧ flL m all = []) ∨ ((all = true ∨ 2 ≤ m.pool.length) ∧ flM m all = ⟨m.sec, m.seen, []⟩ ∧ flL m all = sortS m.pool) := by
  cases hB : flB m all with
  | false =>
    refine .inl ?_
    simp only [flB, hm, Bool.true_and, Bool.or_eq_false_iff, decide_eq_false_iff_not] at hB
    refine ⟨hB.1, by omega, ?_, ?_⟩
    · have : flB m all = false := by simp [flB, hB.1]; intro _; omega
      simp [flM, hm, this]
    · have : flB m all = false := by simp [flB, hB.1]; intro _; omega
      simp [flL, this]
  | true =>
    refine .inr ?_
    have hB' := hB
    simp only [flB, hm, Bool.true_and, Bool.or_eq_true, decide_eq_true_eq] at hB'
    exact ⟨hB', by simp [flM, hm, hB], by simp [flL, hB]⟩
end Go.Proofs.Ythmgfgiaagkdeaa
