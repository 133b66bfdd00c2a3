/- The engine, part a: abstract values, and what it means that a value in memory reads as one; both are kept by worlds that agree on the blocks that are read. -/
import Derived.WalkKit
namespace Go.Proofs.Ytjijkdhjfanpaaa
open Go.RowKit

/-- The value of one cell: a number, a truth, a slice that is only read (its tag, its length, its cells), a slice that is owned (its element type, cells an element, length, cells), a plain function. -/
inductive CV where
  | int (k : IntKind) (n : Int)
  | bool (b : Bool)
  | nil
  | rd (t n : Nat) (xs : List CV)
  | ow (ty e n : Nat) (xs : List CV)
  | fn (f : Nat)

/-- Immutable blocks, by tag. -/
abbrev Im := Nat → Nat → Prop

/-- The slice value: block (or nil), offset in cells, length, capacity. -/
def slv (a : Option Nat) (o n c : Nat) : Value := .slice (a.map fun b => ⟨b, o, none⟩) n c

mutual
def R (im : Im) (w : World) : CV → Value → List Nat → Prop
  | .int k n, v, fp => v = .int k n ∧ fp = []
  | .bool b, v, fp => v = .bool b ∧ fp = []
  | .nil, v, fp => v = .slice none 0 0 ∧ fp = []
  | .rd t n xs, v, fp => fp = [] ∧ ∃ A c, v = .slice A n c ∧ n ≤ c ∧ c ≤ maxLen ∧ (xs = [] ∨ ∃ b o, A = some ⟨b, o, none⟩ ∧ im t b ∧ RL im w b xs o [])
  | .ow ty e n xs, v, fp => (v = .slice none 0 0 ∧ n = 0 ∧ xs = [] ∧ fp = []) ∨
      ∃ b c cur f, v = .slice (some ⟨b, 0, none⟩) n c ∧ n ≤ c ∧ c ≤ maxLen ∧ w.heap[b]? = some (.cells cur ty (0, 0)) ∧ cur.size = c * e ∧ fp = b :: f ∧ RL im w b xs 0 f
  | .fn f, v, fp => v = .func (.func f) #[] #[] ∧ fp = []
def RL (im : Im) (w : World) (b : Nat) : List CV → Nat → List Nat → Prop
  | [], _, fp => fp = []
  | x :: xs, o, fp => ∃ u f1 f2, fp = f1 ++ f2 ∧ w.cell? ⟨b, o, none⟩ = some u ∧ R im w x u f1 ∧ RL im w b xs (o + 1) f2
end

theorem cell_of_same {w w' : World} {b o : Nat} (h : w'.heap[b]? = w.heap[b]?) : w'.cell? ⟨b, o, none⟩ = w.cell? ⟨b, o, none⟩ :=
  World.cell?_of_block (a := ⟨b, o, none⟩) h

mutual
theorem R_mono {im im' : Im} {w w' : World} (hi : ∀ t b, im t b → im' t b ∧ w'.heap[b]? = w.heap[b]?) : ∀ (x : CV) (v : Value) (fp : List Nat), (∀ b ∈ fp, w'.heap[b]? = w.heap[b]?) → R im w x v fp → R im' w' x v fp
  | .int k n, v, fp, _, h => by simpa only [R] using h
  | .bool b, v, fp, _, h => by simpa only [R] using h
  | .nil, v, fp, _, h => by simpa only [R] using h
  | .fn f, v, fp, _, h => by simpa only [R] using h
  | .rd t n xs, v, fp, _, h => by
    simp only [R] at h ⊢
    obtain ⟨h1, A, c, h2, h3, h4, h5⟩ := h
    refine ⟨h1, A, c, h2, h3, h4, ?_⟩
    rcases h5 with h5 | ⟨b, o, h5, h6, h7⟩
    · exact .inl h5
    · exact .inr ⟨b, o, h5, (hi t b h6).1, RL_mono hi xs b o [] (hi t b h6).2 (fun b hb => by cases hb) h7⟩
  | .ow ty e n xs, v, fp, hf, h => by
    simp only [R] at h ⊢
    rcases h with h | ⟨b, c, cur, f, h1, h2, h3, h4, h5, h6, h7⟩
    · exact .inl h
    · have hb : w'.heap[b]? = w.heap[b]? := hf b (by rw [h6]; exact List.mem_cons_self)
      exact .inr ⟨b, c, cur, f, h1, h2, h3, hb.trans h4, h5, h6, RL_mono hi xs b 0 f hb (fun b hb => hf b (by rw [h6]; exact List.mem_cons_of_mem _ hb)) h7⟩
theorem RL_mono {im im' : Im} {w w' : World} (hi : ∀ t b, im t b → im' t b ∧ w'.heap[b]? = w.heap[b]?) : ∀ (xs : List CV) (b o : Nat) (fp : List Nat), w'.heap[b]? = w.heap[b]? → (∀ b ∈ fp, w'.heap[b]? = w.heap[b]?) → RL im w b xs o fp → RL im' w' b xs o fp
  | [], b, o, fp, _, _, h => by simpa only [RL] using h
  | x :: xs, b, o, fp, hb, hf, h => by
    simp only [RL] at h ⊢
    obtain ⟨u, f1, f2, h1, h2, h3, h4⟩ := h
    exact ⟨u, f1, f2, h1, (cell_of_same hb).trans h2, R_mono hi x u f1 (fun b hb => hf b (by rw [h1]; exact List.mem_append_left _ hb)) h3,
      RL_mono hi xs b (o + 1) f2 hb (fun b hb => hf b (by rw [h1]; exact List.mem_append_right _ hb)) h4⟩
end

/-- One cell, not frozen, not an aggregate. -/
theorem R_one {im : Im} {w : World} {x : CV} {v : Value} {fp : List Nat} (h : R im w x v fp) : v.oneCell' = true := by
  cases x <;> simp only [R] at h
  · rw [h.1]; rfl
  · rw [h.1]; rfl
  · rw [h.1]; rfl
  · obtain ⟨_, A, c, h, _⟩ := h; rw [h]; rfl
  · rcases h with ⟨h, _⟩ | ⟨b, c, cur, f, h, _⟩ <;> rw [h] <;> rfl
  · rw [h.1]; rfl

theorem RL_append {im : Im} {w : World} {b : Nat} : ∀ (xs ys : List CV) (o : Nat) (f g : List Nat), RL im w b xs o f → RL im w b ys (o + xs.length) g → RL im w b (xs ++ ys) o (f ++ g)
  | [], ys, o, f, g, h1, h2 => by simp only [RL] at h1; subst h1; simpa using h2
  | x :: xs, ys, o, f, g, h1, h2 => by
    simp only [RL] at h1
    obtain ⟨u, f1, f2, rfl, h4, h5, h6⟩ := h1
    simp only [List.cons_append, RL]
    refine ⟨u, f1, f2 ++ g, by simp, h4, h5, RL_append xs ys (o + 1) f2 g h6 ?_⟩
    simpa [Nat.add_assoc, Nat.add_comm 1] using h2

/-- The cells from place k on. -/
theorem RL_drop {im : Im} {w : World} {b : Nat} : ∀ (xs : List CV) (k o : Nat) (f : List Nat), RL im w b xs o f → ∃ g, g.Sublist f ∧ RL im w b (xs.drop k) (o + k) g
  | [], k, o, f, h => by simp only [RL] at h; subst h; exact ⟨[], List.Sublist.refl _, by simp [RL]⟩
  | x :: xs, 0, o, f, h => ⟨f, List.Sublist.refl _, by simpa using h⟩
  | x :: xs, k + 1, o, f, h => by
    simp only [RL] at h
    obtain ⟨u, f1, f2, rfl, h4, h5, h6⟩ := h
    obtain ⟨g, hg, h⟩ := RL_drop xs k (o + 1) f2 h6
    exact ⟨g, hg.trans (List.sublist_append_right _ _), by simpa [Nat.add_assoc, Nat.add_comm 1] using h⟩
theorem RL_take {im : Im} {w : World} {b : Nat} : ∀ (xs : List CV) (k o : Nat) (f : List Nat), RL im w b xs o f → ∃ g, g.Sublist f ∧ RL im w b (xs.take k) o g
  | [], k, o, f, h => by simp only [RL] at h; subst h; exact ⟨[], List.Sublist.refl _, by simp [RL]⟩
  | x :: xs, 0, o, f, h => ⟨[], List.nil_sublist _, by simp [RL]⟩
  | x :: xs, k + 1, o, f, h => by
    simp only [RL] at h
    obtain ⟨u, f1, f2, rfl, h4, h5, h6⟩ := h
    obtain ⟨g, hg, h⟩ := RL_take xs k (o + 1) f2 h6
    refine ⟨f1 ++ g, List.Sublist.append (List.Sublist.refl _) hg, ?_⟩
    simp only [List.take_succ_cons, RL]
    exact ⟨u, f1, g, rfl, h4, h5, h⟩
theorem RL_get {im : Im} {w : World} {b : Nat} : ∀ (xs : List CV) (k o : Nat) (f : List Nat) (x : CV), RL im w b xs o f → xs[k]? = some x → ∃ u g, g.Sublist f ∧ w.cell? ⟨b, o + k, none⟩ = some u ∧ R im w x u g
  | [], k, o, f, x, h, hk => by simp at hk
  | y :: xs, 0, o, f, x, h, hk => by
    simp only [RL] at h
    obtain ⟨u, f1, f2, rfl, h4, h5, h6⟩ := h
    simp at hk; subst hk
    exact ⟨u, f1, List.sublist_append_left _ _, h4, h5⟩
  | y :: xs, k + 1, o, f, x, h, hk => by
    simp only [RL] at h
    obtain ⟨u, f1, f2, rfl, h4, h5, h6⟩ := h
    obtain ⟨u, g, hg, h1, h2⟩ := RL_get xs k (o + 1) f2 x h6 (by simpa using hk)
    exact ⟨u, g, hg.trans (List.sublist_append_right _ _), by simpa [Nat.add_assoc, Nat.add_comm 1] using h1, h2⟩
/-- The values behind the cells. -/
theorem RL_vals {im : Im} {w : World} {b : Nat} : ∀ (xs : List CV) (o : Nat) (f : List Nat), RL im w b xs o f → ∃ us : List Value, us.length = xs.length ∧ (∀ j u, us[j]? = some u → w.cell? ⟨b, o + j, none⟩ = some u) ∧ (∀ u ∈ us, u.oneCell' = true)
  | [], o, f, h => ⟨[], rfl, by simp, by simp⟩
  | x :: xs, o, f, h => by
    simp only [RL] at h
    obtain ⟨u, f1, f2, rfl, h4, h5, h6⟩ := h
    obtain ⟨us, h1, h2, h3⟩ := RL_vals xs (o + 1) f2 h6
    refine ⟨u :: us, by simp [h1], ?_, ?_⟩
    · intro j v hj
      cases j with
      | zero => simp at hj; subst hj; exact h4
      | succ j => have := h2 j v (by simpa using hj); simpa [Nat.add_assoc, Nat.add_comm 1] using this
    · intro v hv
      rcases List.mem_cons.1 hv with rfl | hv
      · exact R_one h5
      · exact h3 v hv
theorem RL_nofp {im : Im} {w : World} {b : Nat} {xs : List CV} {o : Nat} {g : List Nat} (h : RL im w b xs o g) (hg : g.Sublist []) : RL im w b xs o [] := by
  have : g = [] := List.eq_nil_of_sublist_nil hg
  rwa [this] at h
end Go.Proofs.Ytjijkdhjfanpaaa
