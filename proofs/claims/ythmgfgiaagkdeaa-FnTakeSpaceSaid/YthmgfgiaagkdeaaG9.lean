import Derived.Test.YthmgfgiaagkdeaaG7
import Derived.Lib.AppendZerosOnto
import Derived.Test.YthmgfgiaagkdeaaEngB
namespace Go.Proofs.Ythmgfgiaagkdeaa
open Go.RowKit
attribute [local irreducible] AWP AL XT AC ES PS AH AH2 LpQ
def tms (a b : Int) : Int := a * b % 997
def fct (s : Int) : Int := 1 + (7 * s + 3) % 996
theorem cop997 : (List.range 996).all (fun a => Nat.gcd 997 (a + 1) == 1) = true := by kernel_rfl
theorem fct_elt (s : Int) : elt (fct s) = true := elt_iff.2 (by unfold fct; omega)
theorem tms_elt {a b : Int} (ha : elt a = true) (hb : elt b = true) : elt (tms a b) = true := by
  obtain ⟨a1, a2⟩ := elt_iff.1 ha
  obtain ⟨b1, b2⟩ := elt_iff.1 hb
  refine elt_iff.2 ?_
  unfold tms
  have hne : a * b % 997 ≠ 0 := by
    intro h
    have hd : (997 : Int) ∣ a * b := Int.dvd_of_emod_eq_zero h
    have hn : 997 ∣ a.natAbs * b.natAbs := by
      rw [← Int.natAbs_mul]
      exact Int.natAbs_dvd_natAbs.2 hd
    have hg : Nat.gcd 997 a.natAbs = 1 := by
      have := List.all_eq_true.1 cop997 (a.natAbs - 1) (by simp; omega)
      rw [show a.natAbs - 1 + 1 = a.natAbs by omega] at this
      simpa using this
    have := Nat.le_of_dvd (by omega) (Nat.Coprime.dvd_of_dvd_mul_left (k := 997) (m := a.natAbs) hg hn)
    omega
  omega
theorem mul_bd {a b : Int} (ha : elt a = true) (hb : elt b = true) : 0 ≤ a * b ∧ a * b ≤ 1000000 := by
  obtain ⟨a1, a2⟩ := elt_iff.1 ha
  obtain ⟨b1, b2⟩ := elt_iff.1 hb
  have h1 : (0 : Int) ≤ a * b := Int.mul_nonneg (by omega) (by omega)
  have h2 : a * b ≤ 996 * 996 := Int.mul_le_mul a2 b2 (by omega) (by omega)
  omega
set_option maxRecDepth 100000 in
theorem l1Times_ac (a b : Int) (ha : elt a = true) (hb : elt b = true) : AC Try.prog 117 [.h (.c (.int .i64 a)), .h (.c (.int .i64 b))] [] [0] (fun r h => h = [] ∧ r = .h (.c (.int .i64 (tms a b)))) := by
  obtain ⟨m1, m2⟩ := mul_bd ha hb
  refine ac_body teok Try.func117 rfl (by kernel_rfl) Try.ntmps117 rfl rfl ?_
  intro w0 ps g0 im0
  repeat (first | refine p1 rfl rfl rfl rfl ?_ | refine al_end ?_ | refine awp_seq ?_ | refine awp_region ?_ | refine awp_block ?_ | refine awp_skip' ?_ | refine awp_ret' ?_ | refine awp_exit' ?_ | refine xt_sq_n ?_ | refine xt_bk_n ?_ | refine xt_sq_r ?_ | refine xt_bk_r ?_ | refine xt_sq_x ?_ | refine xt_bk_eq ?_ | refine xt_bk_ne rfl ?_ | refine p0 rfl rfl rfl ?_ | refine p0n rfl rfl ?_ | refine pAr rfl rfl rfl rfl rfl rfl rfl (by omega) (by omega) ?_ | refine pBuild rfl rfl rfl rfl rfl rfl ?_ | refine pE (eAlloc rfl rfl rfl rfl) rfl ?_ | refine pE (eBox rfl rfl rfl rfl rfl) rfl ?_ | refine pE (eSt rfl rfl rfl rfl rfl rfl rfl rfl rfl) rfl ?_ | refine pE (eBs rfl rfl rfl rfl rfl rfl rfl rfl rfl) rfl ?_)
  refine pRem rfl rfl rfl rfl rfl rfl (by omega) (by omega) ?_
  repeat (first | refine p1 rfl rfl rfl rfl ?_ | refine al_end ?_ | refine awp_seq ?_ | refine awp_region ?_ | refine awp_block ?_ | refine awp_skip' ?_ | refine awp_ret' ?_ | refine awp_exit' ?_ | refine xt_sq_n ?_ | refine xt_bk_n ?_ | refine xt_sq_r ?_ | refine xt_bk_r ?_ | refine xt_sq_x ?_ | refine xt_bk_eq ?_ | refine xt_bk_ne rfl ?_ | refine p0 rfl rfl rfl ?_ | refine p0n rfl rfl ?_ | refine pAr rfl rfl rfl rfl rfl rfl rfl (by omega) (by omega) ?_ | refine pBuild rfl rfl rfl rfl rfl rfl ?_ | refine pE (eAlloc rfl rfl rfl rfl) rfl ?_ | refine pE (eBox rfl rfl rfl rfl rfl) rfl ?_ | refine pE (eSt rfl rfl rfl rfl rfl rfl rfl rfl rfl) rfl ?_ | refine pE (eBs rfl rfl rfl rfl rfl rfl rfl rfl rfl) rfl ?_)
  exact xt_fin (.inr rfl) rfl trivial ⟨rfl, rfl⟩
set_option maxRecDepth 100000 in
theorem l1Factor_ac (s : Int) (hs : elt s = true) : AC Try.prog 136 [.h (.c (.int .i64 s))] [] [0] (fun r h => h = [] ∧ r = .h (.c (.int .i64 (fct s)))) := by
  obtain ⟨m1, m2⟩ := elt_iff.1 hs
  refine ac_body teok Try.func136 rfl (by kernel_rfl) Try.ntmps136 rfl rfl ?_
  intro w0 ps g0 im0
  repeat (first | refine p1 rfl rfl rfl rfl ?_ | refine al_end ?_ | refine awp_seq ?_ | refine awp_region ?_ | refine awp_block ?_ | refine awp_skip' ?_ | refine awp_ret' ?_ | refine awp_exit' ?_ | refine xt_sq_n ?_ | refine xt_bk_n ?_ | refine xt_sq_r ?_ | refine xt_bk_r ?_ | refine xt_sq_x ?_ | refine xt_bk_eq ?_ | refine xt_bk_ne rfl ?_ | refine p0 rfl rfl rfl ?_ | refine p0n rfl rfl ?_ | refine pAr rfl rfl rfl rfl rfl rfl rfl (by omega) (by omega) ?_ | refine pBuild rfl rfl rfl rfl rfl rfl ?_ | refine pE (eAlloc rfl rfl rfl rfl) rfl ?_ | refine pE (eBox rfl rfl rfl rfl rfl) rfl ?_ | refine pE (eSt rfl rfl rfl rfl rfl rfl rfl rfl rfl) rfl ?_ | refine pE (eBs rfl rfl rfl rfl rfl rfl rfl rfl rfl) rfl ?_)
  refine pRem rfl rfl rfl rfl rfl rfl (by omega) (by omega) ?_
  repeat (first | refine p1 rfl rfl rfl rfl ?_ | refine al_end ?_ | refine awp_seq ?_ | refine awp_region ?_ | refine awp_block ?_ | refine awp_skip' ?_ | refine awp_ret' ?_ | refine awp_exit' ?_ | refine xt_sq_n ?_ | refine xt_bk_n ?_ | refine xt_sq_r ?_ | refine xt_bk_r ?_ | refine xt_sq_x ?_ | refine xt_bk_eq ?_ | refine xt_bk_ne rfl ?_ | refine p0 rfl rfl rfl ?_ | refine p0n rfl rfl ?_ | refine pAr rfl rfl rfl rfl rfl rfl rfl (by omega) (by omega) ?_ | refine pBuild rfl rfl rfl rfl rfl rfl ?_ | refine pE (eAlloc rfl rfl rfl rfl) rfl ?_ | refine pE (eBox rfl rfl rfl rfl rfl) rfl ?_ | refine pE (eSt rfl rfl rfl rfl rfl rfl rfl rfl rfl) rfl ?_ | refine pE (eBs rfl rfl rfl rfl rfl rfl rfl rfl rfl) rfl ?_)
  exact xt_fin (.inr rfl) rfl trivial ⟨rfl, rfl⟩
structure Pl where
  kind : Int
  next : Int
  pk : Pk
def plw (x : Pl) : AV := .agg [.c (.int .i64 x.kind), .c (.int .i64 x.next), .c (.int .i64 x.pk.el), .sl 0 0 x.pk.hd.length, .c (.int .i64 x.pk.tag), .sl 1 0 x.pk.bd.length]
def plain (sec : Int) (p : Pk) : List Int := offV (tms sec p.el) (p.hd ++ [0, 0, 0])
def peelOk (sec : Int) (p : Pk) : Bool := decide (tagV (tms sec p.el) p.hd = p.tag) && inB ((plain sec p).getD 0 0) 0 1 && inB ((plain sec p).getD 1 0) 0 7
def peelV (sec : Int) (p : Pk) : Pl := ⟨(plain sec p).getD 0 0, (plain sec p).getD 1 0, ⟨tms p.el (fct (tms sec p.el)), (plain sec p).drop 3, (plain sec p).getD 2 0, offV (tms sec p.el) p.bd⟩⟩
def peelR (sec : Int) (p : Pk) : Pl := if peelOk sec p then peelV sec p else ⟨0, 0, ⟨0, [], 0, []⟩⟩
theorem pkOk_iff {p : Pk} : pkOk p = true ↔ elt p.el = true ∧ p.hd.length = 9 ∧ lst p.hd = true ∧ p.bd.length = 6 ∧ lst p.bd = true ∧ nmb p.tag = true := by
  simp [pkOk, and_assoc]
theorem plain_len {sec : Int} {p : Pk} (h : p.hd.length = 9) : (plain sec p).length = 12 := by simp [plain, offV_len, h]
theorem hd12 {p : Pk} (h : p.hd.length = 9) (hl : lst p.hd = true) : lst (p.hd ++ [0, 0, 0]) = true := by
  refine lst_iff.2 ⟨by simp [h], fun n hn => ?_⟩
  rcases List.mem_append.1 hn with h1 | h1
  · exact (lst_iff.1 hl).2 n h1
  · simp at h1; subst h1; omega
theorem ints_mapP : ∀ l : List Int, ints l = l.map (CV.int .i64)
  | [] => rfl
  | a :: l => congrArg (CV.int .i64 a :: ·) (ints_mapP l)
theorem app3 (l : List Int) : ints l ++ List.replicate 3 (CV.int .i64 0) = ints (l ++ [0, 0, 0]) := by
  rw [ints_mapP, ints_mapP, List.map_append]; rfl
end Go.Proofs.Ythmgfgiaagkdeaa
