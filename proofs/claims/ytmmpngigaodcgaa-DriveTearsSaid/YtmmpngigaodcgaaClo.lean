/- Function values: made, and called. -/
import Derived.Test.YtmmpngigaodcgaaHeld
namespace Go.Proofs.Ytmmpngigaodcgaa
set_option linter.unusedVariables false
set_option linter.unusedSimpArgs false
open Go Go.RowKit
section
variable {X : Cx} {ops : Array Oper} {Q : Exit → Act → World → Prop} {ρ : Env} {A B : List HA} {rest : List Oper} {d : Tmp} {op : Op} {ty : TypeId} {ps : String} {af : Array Edge} {v : Value}
theorem Yl.makeFunc {g : FuncId} {xs : List Operand} {vs : List Value} (hx : evs ρ xs = some vs) : Yl X (.makeFunc (.func g) #[] xs.toArray) ty ρ A (.func (.func g) #[] vs.toArray) := fun o ho _ a w f _ => by
  have e := evs_map f hx
  simp [execOp, ho, Instr.makeFunc, e]
/-- A call of a function value, by the contract of what it stands for. -/
theorem WL.callF {R : Value → List HA → Prop} {g : FuncId} {x : Operand} {xs : List Operand} {ts : Array TypeId} {vs cs : List Value} (he : ∀ args w, (callFunc g args).run X.P w = .ok (.enter g args) w) (hf : ev ρ x = some (.func (.func g) #[] cs.toArray)) (hx : evs ρ xs = some vs)
    (hc : ∀ w, St X.w0 X.S A w → Calls X.P g (vs ++ cs).toArray w (Gives R w)) (hd : Nat.blt d X.n = true) (h : ∀ v B, R v B → WL X ops Q rest ((d, v) :: ρ) (B ++ A)) :
    WL X ops Q (⟨some d, .call { callee := .value x, args := xs.toArray, argTypes := ts }, ty, ps, af, none⟩ :: rest) ρ A :=
  fun a w f s => wpList_plain rfl fun K hK => by
    unfold Oper.wp
    have e := evs_map f hx
    have e2 := f.ev hf
    have hr : (execOp a.eval ⟨some d, .call { callee := .value x, args := xs.toArray, argTypes := ts }, ty, ps, af, none⟩).run X.P w = .ok (.enter g (vs ++ cs).toArray) w := by
      simp [execOp, resolve, Deferred.ofValue, e2, invoke, e, he]
    rw [hr]
    exact (hc w s).mono fun e w' hq => by
      obtain ⟨v, B, rfl, hR, hs⟩ := hq
      exact hK _ _ (h v B hR _ _ (f.put (blt_lt hd) v) (s.join0 hs))
theorem WL.callFV {g : FuncId} {x : Operand} {xs : List Operand} {ts : Array TypeId} {vs cs : List Value} (he : ∀ args w, (callFunc g args).run X.P w = .ok (.enter g args) w) (hf : ev ρ x = some (.func (.func g) #[] cs.toArray)) (hx : evs ρ xs = some vs)
    (hc : ∀ w, St X.w0 X.S A w → Calls X.P g (vs ++ cs).toArray w (Gives (Val v) w)) (hd : Nat.blt d X.n = true) (h : WL X ops Q rest ((d, v) :: ρ) A) :
    WL X ops Q (⟨some d, .call { callee := .value x, args := xs.toArray, argTypes := ts }, ty, ps, af, none⟩ :: rest) ρ A :=
  WL.callF he hf hx hc hd (fun u B hu => by obtain ⟨rfl, rfl⟩ := hu; exact h)
/-- A guard on an operation that was passed by. -/
theorem WL.passU {j t : Nat} {want : Bool} (hj : (ops[j]?).bind (·.dst) = some t) (hv : lk ρ t = some undef) (hd : Nat.blt d X.n = true)
    (h : WL X ops Q rest ((d, undef) :: ρ) A) : WL X ops Q (⟨some d, op, ty, ps, af, some (j, want)⟩ :: rest) ρ A := fun a w f s => by
  have h1 := f.get t _ hv
  have h3 : yielded ops a.tmps j = none := by
    unfold yielded
    rw [hj]
    rw [Array.getD_eq_getD_getElem?] at h1
    cases h4 : a.tmps[t]? with
    | none => simp [h4]
    | some u => rw [h4] at h1; simp at h1; subst h1; simp [h4, undef]
  unfold wpList
  rw [if_neg (by simp [Region.wanted, h3])]
  exact h _ w (f.put (blt_lt hd) undef) s
end
end Go.Proofs.Ytmmpngigaodcgaa
