/- Iterators: functions that are handed 'yield', over frames of known slots and owned memory. -/
import Derived.Test.YtmmpngigaodcgaaRnd
import Derived.Sort.LoopGhostIn
namespace Go.Proofs.Ytmmpngigaodcgaa
set_option linter.unusedVariables false
set_option linter.unusedSimpArgs false
open Go Go.RowKit
def endI (P : Program) (fn : Func) (R : Ending → World → Prop) : Exit → Act → World → Prop
  | .normal, a, w | .ret, a, w => a.defers = [] ∧ ∃ v, (results fn a.tmps).run P w = .ok v w ∧ R (.returned v) w
  | _, _, _ => False
theorem enterI {P : Program} {g : FuncId} {fn : Func} {c : Code} {args : List Value} {w : World} {R : Ending → World → Prop} {n m : Nat} (hf : P.funcs[g]? = some fn) (hn : fn.ntmps = n) (hb : fn.body = some c) (hl : Nat.ble args.length n = true)
    (h : WG ⟨P, n, w, []⟩ none [] c (endI P fn R) (argEnv 0 args) []) : CallsIn (fence none) m P g args.toArray w R := by
  have hle : args.length ≤ n := Nat.le_of_ble_eq_true hl
  refine callsIn_of_wp hf hb trivial ?_ rfl
  have h1 := h { tmps := args.toArray ++ Array.replicate (fn.ntmps - args.toArray.size) undef, defers := [] } w ⟨?_, rfl, fun t v ht => ?_⟩ (St.start w)
  rw [sd_nil rfl] at h1
  refine wpIn_mono (Q := endI P fn R) (wpIn_any h1) fun e a w hq => ?_
  rotate_left
  · simp [hn]; omega
  · obtain ⟨j, hj, hv⟩ := lk_argEnv args 0 t v ht
    have hj' : t = j := by omega
    subst hj'
    have hlt : t < args.length := (List.getElem?_eq_some_iff.1 hv).1
    have h2 : args[t] = v := (List.getElem?_eq_some_iff.1 hv).2
    simp [Array.getD_eq_getD_getElem?, Array.getElem?_append, hlt, h2]
  cases e with
  | normal => exact hq
  | ret => exact hq
  | _ => exact hq.elim
theorem WN.iend {P : Program} {fn : Func} {R : Ending → World → Prop} {n : Nat} {w0 : World} {S : List Nat} {ρ : Env} {A : List HA} (hr : fn.results = #[]) (h : ∀ w, St w0 S A w → R (.returned (.tuple #[])) w) :
    WN ⟨P, n, w0, S⟩ (Post [] (endI P fn R)) .normal ρ A := fun a w f s => ⟨by simp [sd, f.defers], _, results_none hr _ _ _, h w s⟩
theorem WN.iret {P : Program} {fn : Func} {R : Ending → World → Prop} {n : Nat} {w0 : World} {S : List Nat} {ρ : Env} {A : List HA} (hr : fn.results = #[]) (h : ∀ w, St w0 S A w → R (.returned (.tuple #[])) w) :
    WN ⟨P, n, w0, S⟩ (Post [] (endI P fn R)) .ret ρ A := fun a w f s => ⟨by simp [sd, f.defers], _, results_none hr _ _ _, h w s⟩
section
variable {X : Cx} {Q : Exit → Act → World → Prop} {ρ : Env} {A : List HA} {ds : List Deferred}
/-- The call of 'yield' in a region of its own: what is called and its argument are moved, the answer is turned round. -/
theorem WG.yield {l m : Nat} {v : Value} {x0 x1 : Operand} {t0 t1 t2 t3 ty0 ty1 ty2 ty3 tb : Nat} {p0 p1 p2 p3 : String} {a0 a1 a2 a3 : Array Edge} {ts : Array TypeId} {id : Nat} {R : Ending → World → Prop}
    (h0 : ev ρ x0 = some (.func (.yield l) #[] #[])) (h1 : ev ρ x1 = some v) (n01 : Nat.beq t0 t1 = false) (hx1 : ∀ u, ev ((t0, u) :: ρ) x1 = ev ρ x1)
    (d0 : Nat.blt t0 X.n = true) (d1 : Nat.blt t1 X.n = true) (d2 : Nat.blt t2 X.n = true) (d3 : Nat.blt t3 X.n = true)
    (hy : ∀ w, St X.w0 X.S A w → YieldAt (fence none) m X.P l #[v] w R)
    (hR : ∀ e w, R e w → ∃ b, e = .returned (.bool b))
    (h : ∀ b a w, R (.returned (.bool b)) w → Fr X.n ((t3, .bool (!b)) :: ρ) a → Q .normal (sd ds a) w) (hfresh : ∀ u0 u1 u2 u3, Sub ((t3, u3) :: (t2, u2) :: (t1, u1) :: (t0, u0) :: ρ) ((t3, u3) :: ρ)) :
    WG X none ds (.region id [⟨some t0, .move x0, ty0, p0, a0, none⟩, ⟨some t1, .move x1, ty1, p1, a1, none⟩, ⟨some t2, .call { callee := .value (.tmp t0), args := [Operand.tmp t1].toArray, argTypes := ts }, ty2, p2, a2, none⟩,
      ⟨some t3, .unOp .not tb (.tmp t2), ty3, p3, a3, none⟩].toArray false) Q ρ A := fun a w f s => by
  refine wpIn_region_lit ?_
  have e0 : a.eval x0 = .func (.yield l) #[] #[] := f.ev h0
  have f1 := f.put (blt_lt d0) (Value.func (.yield l) #[] #[])
  have e1 : (a.put (some t0) (.func (.yield l) #[] #[])).eval x1 = v := f1.ev (by rw [hx1, h1])
  have f2 := f1.put (blt_lt d1) v
  have l0 : ((a.put (some t0) (.func (.yield l) #[] #[])).put (some t1) v).eval (.tmp t0) = .func (.yield l) #[] #[] := f2.ev (x := .tmp t0) (by
    have n10 : Nat.beq t1 t0 = false := by
      cases e : Nat.beq t1 t0 with
      | false => rfl
      | true => have := Nat.eq_of_beq_eq_true e; subst this; rw [Nat.beq_refl] at n01; cases n01
    show lk _ t0 = _
    simp only [lk, n10, Nat.beq_refl]; rfl)
  have l1 : ((a.put (some t0) (.func (.yield l) #[] #[])).put (some t1) v).eval (.tmp t1) = v := f2.ev (x := .tmp t1) (by show lk _ t1 = _; simp only [lk, Nat.beq_refl]; rfl)
  obtain ⟨fn, tmps, assign, body, hrun, hround⟩ := hy w s
  refine wpListIn_plain rfl fun K hK => ⟨fun _ _ => trivial, ?_⟩
  have q0 : (Oper.semAt (fence none).round (sd ds a).eval ⟨some t0, .move x0, ty0, p0, a0, none⟩).run X.P w = .ok (.value (.func (.yield l) #[] #[])) w := by
    rw [Oper.semAt_eq _ _ _ (fun c e => by cases e)]
    show (execOp a.eval _).run X.P w = _
    simp [execOp, e0]
  rw [q0, Oper.uponIn_value, ← sd_put]
  refine hK _ _ (wpListIn_plain rfl fun K hK => ⟨fun _ _ => trivial, ?_⟩)
  have q1 : (Oper.semAt (fence none).round (sd ds (a.put (some t0) (.func (.yield l) #[] #[]))).eval ⟨some t1, .move x1, ty1, p1, a1, none⟩).run X.P w = .ok (.value v) w := by
    rw [Oper.semAt_eq _ _ _ (fun c e => by cases e)]
    show (execOp (a.put (some t0) (.func (.yield l) #[] #[])).eval _).run X.P w = _
    simp [execOp, e1]
  rw [q1, Oper.uponIn_value, ← sd_put]
  refine hK _ _ (wpListIn_plain rfl fun K hK => ⟨fun _ _ => trivial, ?_⟩)
  have q2 : (Oper.semAt (fence none).round (sd ds ((a.put (some t0) (.func (.yield l) #[] #[])).put (some t1) v)).eval ⟨some t2, .call { callee := .value (.tmp t0), args := [Operand.tmp t1].toArray, argTypes := ts }, ty2, p2, a2, none⟩).run X.P w = .ok (.round l fn tmps assign body) w := by
    rw [Oper.semAt_eq _ _ _ (fun c e => by cases e)]
    show (execOp ((a.put (some t0) (.func (.yield l) #[] #[])).put (some t1) v).eval _).run X.P w = _
    simp [execOp, resolve, Deferred.ofValue, l0, l1, invoke, hrun]
  rw [q2, Oper.uponIn_round]
  refine ⟨fun hd => (by cases hd), ?_⟩
  have hround' : RoundIn (fence none) (0 - 1) X.P l fn tmps assign body w R := ⟨hround.1, fun c cs _ => hround.2 c cs (room_fence _ _)⟩
  refine hround'.mono fun e w' hr => ?_
  obtain ⟨b, rfl⟩ := hR e w' hr
  simp only
  rw [← sd_put]
  have f3 := f2.put (blt_lt d2) (Value.bool b)
  refine hK _ _ (wpListIn_plain rfl fun K hK => ⟨fun _ _ => trivial, ?_⟩)
  have l2 : (((a.put (some t0) (.func (.yield l) #[] #[])).put (some t1) v).put (some t2) (.bool b)).eval (.tmp t2) = .bool b := f3.ev (x := .tmp t2) (by show lk _ t2 = _; simp only [lk, Nat.beq_refl]; rfl)
  have q3 : (Oper.semAt (fence none).round (sd ds (((a.put (some t0) (.func (.yield l) #[] #[])).put (some t1) v).put (some t2) (.bool b))).eval ⟨some t3, .unOp .not tb (.tmp t2), ty3, p3, a3, none⟩).run X.P w' = .ok (.value (.bool (!b))) w' := by
    rw [Oper.semAt_eq _ _ _ (fun c e => by cases e)]
    show (execOp (((a.put (some t0) (.func (.yield l) #[] #[])).put (some t1) v).put (some t2) (.bool b)).eval _).run X.P w' = _
    have hn : (Op.unary .not (.bool b)).run X.P w' = .ok (.bool (!b)) w' := by simp [Op.unary]
    simp [execOp, l2, hn]
  rw [q3, Oper.uponIn_value, ← sd_put]
  exact hK _ _ (wpListIn_nil (h b _ w' hr ((f3.put (blt_lt d3) (.bool (!b))).of_sub (hfresh _ _ _ _))))
end
end Go.Proofs.Ytmmpngigaodcgaa
