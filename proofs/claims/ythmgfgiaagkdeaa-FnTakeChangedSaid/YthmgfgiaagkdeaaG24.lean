import Derived.Test.YthmgfgiaagkdeaaG23
namespace Go.Proofs.Ythmgfgiaagkdeaa
open Go.RowKit
def lsP (a b : Pl) : Bool := if a.kind = b.kind then (if a.next = b.next then (if a.pk.el = b.pk.el then decide (a.pk.tag < b.pk.tag) else decide (a.pk.el < b.pk.el)) else decide (a.next < b.next)) else decide (a.kind < b.kind)
def LsP (a b : Pl) : Prop := a.kind < b.kind ∨ (a.kind = b.kind ∧ (a.next < b.next ∨ (a.next = b.next ∧ (a.pk.el < b.pk.el ∨ (a.pk.el = b.pk.el ∧ a.pk.tag < b.pk.tag)))))
theorem lsP_iff (a b : Pl) : lsP a b = true ↔ LsP a b := by
  unfold lsP LsP
  split
  · split
    · split
      · simp only [decide_eq_true_eq]; omega
      · simp only [decide_eq_true_eq]; omega
    · simp only [decide_eq_true_eq]; omega
  · simp only [decide_eq_true_eq]; omega
theorem lsP_no {a b : Pl} : lsP a b = false ↔ ¬ LsP a b := by rw [← lsP_iff]; simp
theorem lsP_asym {a b : Pl} (h : lsP a b = true) : lsP b a = false := by
  rw [lsP_iff] at h; rw [lsP_no]; unfold LsP at *; omega
theorem lsP_tr {a b c : Pl} (h : lsP a b = true) (h2 : lsP c b = false) : lsP a c = true := by
  rw [lsP_iff] at *; rw [lsP_no] at h2; unfold LsP at *; omega
theorem lsP_le {a b c : Pl} (h : lsP b a = false) (h2 : lsP c b = false) : lsP c a = false := by
  rw [lsP_no] at *; unfold LsP at *; omega
def cmI (a b : Int) : Int := if a < b then -1 else if b < a then 1 else 0
def cmpP (a b : Pl) : Int := if cmI a.kind b.kind = 0 then (if cmI a.next b.next = 0 then (if cmI a.pk.el b.pk.el = 0 then cmI a.pk.tag b.pk.tag else cmI a.pk.el b.pk.el) else cmI a.next b.next) else cmI a.kind b.kind
theorem cmI_lt {a b : Int} : cmI a b < 0 ↔ a < b := by unfold cmI; split <;> (try split) <;> omega
theorem cmI_eq {a b : Int} : cmI a b = 0 ↔ a = b := by unfold cmI; split <;> (try split) <;> omega
theorem cmpP_lt (a b : Pl) : cmpP a b < 0 ↔ lsP a b = true := by
  rw [lsP_iff]
  unfold cmpP LsP
  simp only [cmI_eq]
  split
  · split
    · split
      · rw [cmI_lt]; omega
      · rw [cmI_lt]; omega
    · rw [cmI_lt]; omega
  · rw [cmI_lt]; omega
def insS (x : Pl) : List Pl → List Pl
  | [] => [x]
  | y :: r => if lsP x y then x :: y :: r else y :: insS x r
def sortS (l : List Pl) : List Pl := l.foldl (fun o x => insS x o) []
def Srt (l : List Pl) : Prop := l.Pairwise (fun a b => lsP b a = false)
theorem insS_len (x : Pl) : ∀ l : List Pl, (insS x l).length = l.length + 1
  | [] => rfl
  | y :: r => by simp only [insS]; split <;> simp [insS_len x r]
theorem insS_mem (x z : Pl) : ∀ l : List Pl, z ∈ insS x l ↔ z = x ∨ z ∈ l
  | [] => by simp [insS]
  | y :: r => by
    simp only [insS]
    split
    · simp
    · simp only [List.mem_cons, insS_mem x z r]
      constructor
      · rintro (h | h | h)
        · exact .inr (.inl h)
        · exact .inl h
        · exact .inr (.inr h)
      · rintro (h | h | h)
        · exact .inr (.inl h)
        · exact .inl h
        · exact .inr (.inr h)
theorem insS_perm (x : Pl) : ∀ l : List Pl, (insS x l).Perm (x :: l)
  | [] => List.Perm.refl _
  | y :: r => by
    simp only [insS]
    split
    · exact List.Perm.refl _
    · exact ((insS_perm x r).cons y).trans (List.Perm.swap x y r)
theorem insS_srt (x : Pl) : ∀ l : List Pl, Srt l → Srt (insS x l)
  | [], _ => by simp [insS, Srt]
  | y :: r, h => by
    have h' := List.pairwise_cons.1 h
    simp only [insS]
    split
    · rename_i hx
      refine List.pairwise_cons.2 ⟨fun z hz => ?_, h⟩
      rcases List.mem_cons.1 hz with e | hz
      · subst e; exact lsP_asym hx
      · exact lsP_asym (lsP_tr hx (h'.1 z hz))
    · rename_i hx
      refine List.pairwise_cons.2 ⟨fun z hz => ?_, insS_srt x r h'.2⟩
      rcases (insS_mem x z r).1 hz with e | hz
      · subst e; simpa using hx
      · exact h'.1 z hz
theorem insS_at (x : Pl) : ∀ (l : List Pl) (k : Nat), k ≤ l.length → (∀ j, j < k → (h : j < l.length) → lsP x l[j] = false) → ((h : k < l.length) → lsP x l[k] = true) → insS x l = l.take k ++ x :: l.drop k
  | [], k, hk, _, _ => by simp at hk; subst hk; rfl
  | y :: r, 0, _, _, h => by have := h (by simp); simp only [List.getElem_cons_zero] at this; simp [insS, this]
  | y :: r, k + 1, hk, h1, h2 => by
    have h0 := h1 0 (by omega) (by simp)
    simp only [List.getElem_cons_zero] at h0
    simp only [insS, h0]
    rw [insS_at x r k (by simpa using hk) (fun j hj hl => by have := h1 (j + 1) (by omega) (by simpa using hl); simpa using this) (fun h => by have := h2 (by simpa using h); simpa using this)]
    simp
theorem insS_end {x : Pl} : ∀ {l : List Pl}, (∀ z ∈ l, lsP x z = false) → insS x l = l ++ [x]
  | [], _ => rfl
  | y :: r, h => by
    simp only [insS, h y List.mem_cons_self]
    rw [insS_end fun z hz => h z (List.mem_cons_of_mem _ hz)]
    simp
theorem insS_last {x y : Pl} (h : lsP x y = true) : ∀ l : List Pl, insS x (l ++ [y]) = insS x l ++ [y]
  | [] => by simp [insS, h]
  | z :: r => by
    simp only [List.cons_append, insS, insS_last h r]
    split <;> simp
theorem sortS_app (l : List Pl) (x : Pl) : sortS (l ++ [x]) = insS x (sortS l) := by simp [sortS]
theorem fold_srt : ∀ (q p : List Pl), Srt p → Srt (q.foldl (fun o x => insS x o) p)
  | [], _, h => h
  | x :: q, p, h => fold_srt q _ (insS_srt x p h)
theorem fold_perm : ∀ (q p : List Pl), (q.foldl (fun o x => insS x o) p).Perm (q ++ p)
  | [], _ => List.Perm.refl _
  | x :: q, p => (fold_perm q _).trans (((insS_perm x p).append_left q).trans List.perm_middle)
theorem sortS_srt (l : List Pl) : Srt (sortS l) := fold_srt l [] List.Pairwise.nil
theorem sortS_perm (l : List Pl) : (sortS l).Perm l := by simpa [sortS] using fold_perm l []
theorem sortS_len (l : List Pl) : (sortS l).length = l.length := (sortS_perm l).length_eq
/-- One packet sinks to its place by swaps. -/
def sink : List Pl → Nat → List Pl
  | L, 0 => L
  | L, j + 1 => match L[j]?, L[j + 1]? with
    | some a, some b => if lsP b a then sink (swp L j) j else L
    | _, _ => L
def sinks : Nat → Nat → List Pl → List Pl
  | 0, _, L => L
  | m + 1, i, L => sinks m (i + 1) (sink L i)
theorem sink_step {L : List Pl} {j : Nat} (h : j + 1 < L.length) : sink L (j + 1) = if lsP L[j + 1] L[j] then sink (swp L j) j else L := by
  simp only [sink, List.getElem?_eq_getElem h, List.getElem?_eq_getElem (Nat.lt_of_succ_lt h)]
theorem sink_ins (x : Pl) : ∀ (n : Nat) (P : List Pl), P.length = n → ∀ Q : List Pl, Srt P → sink (P ++ x :: Q) P.length = insS x P ++ Q
  | 0, P, hn, Q, _ => by
    have : P = [] := List.eq_nil_of_length_eq_zero hn
    subst this
    rfl
  | n + 1, P, hn, Q, hs => by
    have hne : P ≠ [] := by rintro rfl; simp at hn
    obtain ⟨P', y, rfl⟩ : ∃ P' y, P = P' ++ [y] := ⟨P.dropLast, P.getLast hne, (List.dropLast_concat_getLast hne).symm⟩
    have hl : (P' ++ [y]).length = P'.length + 1 := by simp
    have hn' : P'.length = n := by omega
    have hL : (P' ++ [y]) ++ x :: Q = P' ++ y :: x :: Q := by simp
    have hlt : P'.length + 1 < (P' ++ y :: x :: Q).length := by simp
    have e0 : (P' ++ y :: x :: Q)[P'.length]'(by simp) = y := by simp
    have e1 : (P' ++ y :: x :: Q)[P'.length + 1] = x := by simp
    have hsp := List.pairwise_append.1 hs
    rw [hl, hL, sink_step hlt, e0, e1]
    by_cases h : lsP x y = true
    · rw [if_pos h, swp_eq hlt, e0, e1]
      have e2 : (P' ++ y :: x :: Q).take P'.length = P' := by simp
      have e3 : (P' ++ y :: x :: Q).drop (P'.length + 2) = Q := by
        rw [← List.drop_drop, List.drop_left]; rfl
      rw [e2, e3, sink_ins x n P' hn' (y :: Q) hsp.1, insS_last h]
      simp
    · have h' : lsP x y = false := by simpa using h
      rw [if_neg h, insS_end (fun z hz => ?_)]
      · simp
      · rcases List.mem_append.1 hz with hz | hz
        · exact lsP_le (hsp.2.2 z hz y (by simp)) h'
        · simp at hz; subst hz; exact h'
theorem sinks_fold : ∀ (m : Nat) (P Q : List Pl), Q.length = m → Srt P → sinks m P.length (P ++ Q) = Q.foldl (fun o x => insS x o) P
  | 0, P, Q, h, _ => by
    have : Q = [] := List.eq_nil_of_length_eq_zero h
    subst this
    simp [sinks]
  | m + 1, P, [], h, _ => by simp at h
  | m + 1, P, x :: Q, h, hs => by
    simp only [sinks, List.foldl_cons]
    rw [sink_ins x P.length P rfl Q hs, ← insS_len x P, sinks_fold m (insS x P) Q (by simpa using h) (insS_srt x P hs)]
theorem sinks_sort (L : List Pl) : sinks (L.length - 1) 1 L = sortS L := by
  cases L with
  | nil => rfl
  | cons x r => exact sinks_fold r.length [x] r rfl (by simp [Srt])
end Go.Proofs.Ythmgfgiaagkdeaa
