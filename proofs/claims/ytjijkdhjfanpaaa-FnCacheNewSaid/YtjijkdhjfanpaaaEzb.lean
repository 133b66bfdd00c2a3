/- The engine: two structs of numbers are compared. -/
import Derived.Test.YtjijkdhjfanpaaaEza
namespace Go.Proofs.Ytjijkdhjfanpaaa
open Go.RowKit
def isI64 (te : TE) (t : Nat) : Bool := match look t te with
  | some ⟨.int .i64, _, _, _⟩ => true
  | _ => false
def eqSb (P : Program) (te : TE) (t n : Nat) : Bool := !P.stoodInHeld t && (!P.eqGuardType P.depth t && match P.underlying t with
  | some (.struct fa) => fa.toList.all (fun f => f.name != "_" && isI64 te f.type) && fa.toList.map (·.offset) == List.range n
  | _ => false)
def iv (l : List Int) : List Value := l.map (Value.int .i64)
def ih (l : List Int) : List HV := l.map fun n => HV.c (.int .i64 n)
theorem RHs_ih {g : Ga} {im : Im} {w : World} : ∀ (l : List Int) (vs : List Value) (fp : List Nat), RHs g im w (ih l) vs fp → vs = iv l
  | [], vs, fp, h => h.1
  | n :: l, vs, fp, h => by
    obtain ⟨v, vs', f1, f2, rfl, rfl, h1, h2⟩ := h
    have h3 : v = .int .i64 n := by simp only [RH, R] at h1; exact h1.1
    rw [h3, RHs_ih l vs' f2 h2]
    rfl
theorem isI64_und {P : Program} {te : TE} (hte : teOk P te = true) {t : Nat} (h : isI64 te t = true) : P.underlying t = some (.int .i64) ∧ ∀ w, (isAgg t).run P w = .ok false w := by
  unfold isI64 at h
  split at h
  · rename_i sz b z hl
    exact ⟨und_int hte hl, fun w => isAgg_of hte hl w⟩
  · cases h
theorem run_eqFields {P : Program} {te : TE} (hte : teOk P te = true) (d : Nat) (as bs : List Int) (hlen : as.length = bs.length) (w : World) : ∀ fs : List Field, fs.all (fun f => f.name != "_" && isI64 te f.type) = true → (∀ f ∈ fs, f.offset < as.length) →
    (Op.eqFields (d + 1) (iv as).toArray (iv bs).toArray fs).run P w = .ok (fs.all fun f => decide (as[f.offset]? = bs[f.offset]?)) w
  | [], _, _ => by simp [Op.eqFields]
  | f :: fs, h, ho => by
    simp only [List.all_cons, Bool.and_eq_true, bne_iff_ne, ne_eq] at h
    obtain ⟨⟨h1, h2⟩, h3⟩ := h
    obtain ⟨hu, ha⟩ := isI64_und hte h2
    have h4 := ho f List.mem_cons_self
    have h5 : f.offset < bs.length := by omega
    have pt : ∀ (cs : List Int) (hc : f.offset < cs.length), (part f.type (iv cs).toArray f.offset).run P w = .ok (.int .i64 cs[f.offset]) w := by
      intro cs hc
      simp [part, ha, iv, List.getElem?_eq_getElem hc]
    rw [Op.eqFields, if_pos h1]
    simp only [Sem.run_bind, pt as h4, pt bs h5, Result.andThen_ok, run_equalIn_int w d f.type .i64 .i64 _ _ hu, Sem.run_ite]
    by_cases e : as[f.offset] = bs[f.offset]
    · simp only [e, beq_self_eq_true, Bool.not_true, Bool.false_eq_true, if_false]
      rw [run_eqFields hte d as bs hlen w fs h3 fun f hf => ho f (List.mem_cons_of_mem _ hf)]
      simp [List.getElem?_eq_getElem h4, List.getElem?_eq_getElem h5, e]
    · have e' : (as[f.offset] == bs[f.offset]) = false := by simpa using e
      simp [e', List.getElem?_eq_getElem h4, List.getElem?_eq_getElem h5, e]
theorem run_eqS {P : Program} {te : TE} (hte : teOk P te = true) {t n : Nat} (hb : eqSb P te t n = true) (as bs : List Int) (ha : as.length = n) (hb' : bs.length = n) (w : World) :
    (Op.equalIn 10000 t (.agg (iv as).toArray) (.agg (iv bs).toArray)).run P w = .ok (decide (as = bs)) w := by
  unfold eqSb at hb
  simp only [Bool.and_eq_true, Bool.not_eq_true'] at hb
  obtain ⟨h1, h2, h3⟩ := hb
  split at h3
  · rename_i fa hu
    simp only [Bool.and_eq_true, beq_iff_eq] at h3
    have hf : P.fieldsOf t = fa := by simp [Program.fieldsOf, hu]
    rw [show (10000 : Nat) = 9999 + 1 from rfl, run_equalIn_agg w 9999 t _ _ (by rw [hf]; exact hu) h1, hf, show (9999 : Nat) = 9998 + 1 from rfl]
    rw [run_eqFields hte 9998 as bs (by omega) w fa.toList h3.1 fun f hf => by
      have : f.offset ∈ fa.toList.map (·.offset) := List.mem_map_of_mem hf
      rw [h3.2] at this
      have := List.mem_range.1 this
      omega]
    congr 1
    rw [Bool.eq_iff_iff, List.all_eq_true, decide_eq_true_iff]
    constructor
    · intro h
      apply List.ext_getElem? 
      intro j
      by_cases hj : j < n
      · have : j ∈ fa.toList.map (·.offset) := by rw [h3.2]; exact List.mem_range.2 hj
        obtain ⟨f, hf, rfl⟩ := List.mem_map.1 this
        exact of_decide_eq_true (h f hf)
      · rw [List.getElem?_eq_none (by omega), List.getElem?_eq_none (by omega)]
    · rintro rfl f _
      simp
  · cases h3
section
variable {E : Env} {te : TE} {os : Option (List Nat)} {fl : Bool} {s : AS}
theorem ps_eqS {op : BinOp} {t t' : TypeId} {x y : Operand} {n : Nat} {as bs : List Int} {r : Bool} (hte : teOk E.P te = true) (hb : eqSb E.P te t n = true) (hx : s.eval x = some (.agg (ih as))) (hy : s.eval y = some (.agg (ih bs))) (ha : Nat.beq as.length n = true) (hb' : Nat.beq bs.length n = true)
    (hop : (op = .eql ∧ r = decide (as = bs)) ∨ (op = .neq ∧ r = !decide (as = bs))) :
    PS E os fl s (.binOp op t x y t') (.h (.c (.bool r))) := by
  intro g im ac w M n0 ⟨fps, hs⟩ hI
  have e1 := hs.eval hx
  have e2 := hs.eval hy
  simp only [RA] at e1 e2
  obtain ⟨c1, e1, r1⟩ := e1
  obtain ⟨c2, e2, r2⟩ := e2
  rw [RHs_ih _ _ _ r1] at e1
  rw [RHs_ih _ _ _ r2] at e2
  have hgt : E.P.eqGuardType E.P.depth t = false := by
    unfold eqSb at hb
    simp only [Bool.and_eq_true, Bool.not_eq_true'] at hb
    exact hb.2.1
  have hr : ∀ w', (Op.equalIn 10000 t (.agg (iv as).toArray) (.agg (iv bs).toArray)).run E.P w' = .ok (decide (as = bs)) w' := fun w' =>
    run_eqS hte hb as bs (Nat.eq_of_beq_eq_true ha) (Nat.eq_of_beq_eq_true hb') w'
  refine ⟨_, RA_mkBool _, fun w' _ o ho => ?_⟩
  rcases hop with ⟨rfl, rfl⟩ | ⟨rfl, rfl⟩
  · simp [execOp, ho, e1, e2, run_eqGuard_agg w' _ _ _ _ _ _ hgt, run_eql_struct, hr]
  · simp [execOp, ho, e1, e2, run_eqGuard_agg w' _ _ _ _ _ _ hgt, run_neq_struct, hr]
end
section
variable {E : Env} {l rest : List Oper} {fr : List (Nat × AV)} {hp : List (Nat × Ob)} {nx : Nat} {o oi : Oper} {Q : Exit → AS → Prop} {d : Nat}
theorem pEqS {t t' : TypeId} {x y : Operand} {n : Nat} (as bs : List Int) (hb : eqSb E.P E.te t n = true) (ho : o.op = .binOp .eql t x y t') (hx : AS.eval ⟨fr, hp, nx⟩ x = some (.agg (ih as))) (hy : AS.eval ⟨fr, hp, nx⟩ y = some (.agg (ih bs))) (ha : Nat.beq as.length n = true) (hb' : Nat.beq bs.length n = true)
    (hg : gdv l ⟨fr, hp, nx⟩ o = some true) (hd : o.dst = some d) (hn : Nat.blt d E.nt = true) (k : AL E l rest ⟨(d, .h (.c (.bool (decide (as = bs))))) :: fr, hp, nx⟩ Q) : AL E l (o :: rest) ⟨fr, hp, nx⟩ Q :=
  al_pd (by rw [ho]; exact ps_eqS E.hte hb hx hy ha hb' (.inl ⟨rfl, rfl⟩)) hg hd hn k
theorem pNeS {t t' : TypeId} {x y : Operand} {n : Nat} (as bs : List Int) (hb : eqSb E.P E.te t n = true) (ho : o.op = .binOp .neq t x y t') (hx : AS.eval ⟨fr, hp, nx⟩ x = some (.agg (ih as))) (hy : AS.eval ⟨fr, hp, nx⟩ y = some (.agg (ih bs))) (ha : Nat.beq as.length n = true) (hb' : Nat.beq bs.length n = true)
    (hg : gdv l ⟨fr, hp, nx⟩ o = some true) (hd : o.dst = some d) (hn : Nat.blt d E.nt = true) (k : AL E l rest ⟨(d, .h (.c (.bool (!decide (as = bs))))) :: fr, hp, nx⟩ Q) : AL E l (o :: rest) ⟨fr, hp, nx⟩ Q :=
  al_pd (by rw [ho]; exact ps_eqS E.hte hb hx hy ha hb' (.inr ⟨rfl, rfl⟩)) hg hd hn k
variable {cert : CT} {nr : Nat} {os ms : List Nat} {fl : Bool} {k : AS → Prop} {i : Nat}
theorem dEqS {t t' : TypeId} {x y : Operand} {n : Nat} (as bs : List Int) (hi : nth l i = some oi) (hb : eqSb E.P E.te t n = true) (ho : oi.op = .binOp .eql t x y t') (hx : AS.eval ⟨fr, hp, nx⟩ x = some (.agg (ih as))) (hy : AS.eval ⟨fr, hp, nx⟩ y = some (.agg (ih bs))) (ha : Nat.beq as.length n = true) (hb' : Nat.beq bs.length n = true)
    (hg : gdv l ⟨fr, hp, nx⟩ oi = some true) (hd : oi.dst = some d) (hn : Nat.blt d E.nt = true) (kk : AH E l cert nr os ms fl ⟨(d, .h (.c (.bool (decide (as = bs))))) :: fr, hp, nx⟩ k) : AH E l (CT.cons (i, true) cert) nr os ms fl ⟨fr, hp, nx⟩ k :=
  dPS hi (by rw [ho]; exact ps_eqS E.hte hb hx hy ha hb' (.inl ⟨rfl, rfl⟩)) hg hd hn kk
theorem dNeS {t t' : TypeId} {x y : Operand} {n : Nat} (as bs : List Int) (hi : nth l i = some oi) (hb : eqSb E.P E.te t n = true) (ho : oi.op = .binOp .neq t x y t') (hx : AS.eval ⟨fr, hp, nx⟩ x = some (.agg (ih as))) (hy : AS.eval ⟨fr, hp, nx⟩ y = some (.agg (ih bs))) (ha : Nat.beq as.length n = true) (hb' : Nat.beq bs.length n = true)
    (hg : gdv l ⟨fr, hp, nx⟩ oi = some true) (hd : oi.dst = some d) (hn : Nat.blt d E.nt = true) (kk : AH E l cert nr os ms fl ⟨(d, .h (.c (.bool (!decide (as = bs))))) :: fr, hp, nx⟩ k) : AH E l (CT.cons (i, true) cert) nr os ms fl ⟨fr, hp, nx⟩ k :=
  dPS hi (by rw [ho]; exact ps_eqS E.hte hb hx hy ha hb' (.inr ⟨rfl, rfl⟩)) hg hd hn kk
end
end Go.Proofs.Ytjijkdhjfanpaaa
