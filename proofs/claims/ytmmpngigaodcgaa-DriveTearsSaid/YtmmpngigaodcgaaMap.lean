/- Operations on maps with natural numbers as keys, over frames of known slots and owned memory. -/
import Derived.Test.YtmmpngigaodcgaaMapL
import Derived.Test.YtmmpngigaodcgaaStr
import Derived.Test.YtmmpngigaodcgaaPtr
import Derived.Laws.Pointers
namespace Go.Proofs.Ytmmpngigaodcgaa
set_option linter.unusedVariables false
set_option linter.unusedSimpArgs false
open Go Go.RowKit
set_option maxRecDepth 100000
/-- What lies in a block, in every state of this kind. -/
def Has (X : Cx) (A : List HA) (b : Nat) (o : Obj) : Prop := ∀ w, St X.w0 X.S A w → w.heap[b]? = some o
theorem Has.mem {X : Cx} {A : List HA} {b : Nat} {o : Obj} (h : HA.blk b o ∈ A) : Has X A b o := fun _ s => s.holds _ h
theorem Has.old {P : Program} {n : Nat} {w0 : World} {A : List HA} {b : Nat} {o : Obj} (h : w0.heap[b]? = some o) : Has ⟨P, n, w0, []⟩ A b o := fun _ s => (s.kept.block b (lt_of_heap h) (by simp)).trans h
theorem Yl.loadH {X : Cx} {A : List HA} {ρ : Env} {ty : TypeId} {v : Value} {x : Operand} {T T' : TypeId} {b off : Nat} {cs : Array Value} {fr : Nat × Nat} (hg : ∀ w, (isAgg T).run X.P w = .ok false w) (hx : ev ρ x = some (.pointer (some ⟨b, off, none⟩)))
    (hm : Has X A b (.cells cs T' fr)) (hv : cs[off]? = some v) : Yl X (.load T x) ty ρ A v := Yl.intro fun o ho _ a w f s => by
  have hc : w.cell? ⟨b, off, none⟩ = some v := by simp [World.cell?, hm w s, hv]
  simp [execOp, ho, f.ev hx, Instr.loadAt, Instr.sureAddr, loadVar, hg, hc]
theorem Yl.neqPN {X : Cx} {A : List HA} {ρ : Env} {ty : TypeId} {x : Operand} {t u : TypeId} {p : Option Addr} (ht : X.P.underlying t = some (.pointer (X.P.pointee t))) (hx : ev ρ x = some (.pointer p)) :
    Yl X (.binOp .neq t x (.const (.pointer none)) u) ty ρ A (.bool p.isSome) := Yl.intro fun o ho _ a w f s => by
  have e : a.eval (.const (.pointer none)) = .pointer none := rfl
  simp [execOp, ho, f.ev hx, e, binOp, eqGuard, run_equal_pointer_nil w t p ht]
theorem Yl.eqlPN {X : Cx} {A : List HA} {ρ : Env} {ty : TypeId} {x : Operand} {t u : TypeId} {p : Option Addr} (ht : X.P.underlying t = some (.pointer (X.P.pointee t))) (hx : ev ρ x = some (.pointer p)) :
    Yl X (.binOp .eql t x (.const (.pointer none)) u) ty ρ A (.bool p.isNone) := Yl.intro fun o ho _ a w f s => by
  have e : a.eval (.const (.pointer none)) = .pointer none := rfl
  simp [execOp, ho, f.ev hx, e, binOp, eqGuard, run_equal_pointer_nil w t p ht]
theorem run_getObj_map {P : Program} {w : World} {r : Nat} {es : Array MapEntry} {c : Nat} (h : w.heap[r]? = some (.map es c)) : (getObj r).run P w = .ok (.map es c) w := by
  simp [getObj, Sem.run, h]
def mset (w : World) (b : Nat) (o : Obj) : World := { w with heap := w.heap.setIfInBounds b o }
theorem run_setObj_map {P : Program} {w : World} {r : Nat} {es : Array MapEntry} {c : Nat} (o : Obj) (h : w.heap[r]? = some (.map es c)) : (setObj r o).run P w = .ok () (mset w r o) := by
  simp [setObj, Sem.run, h, mset]
theorem Kept.mset (w : World) (b : Nat) (o : Obj) : Kept w [b] (mset w b o) := ⟨rfl, rfl, rfl, by simp [Go.Proofs.Ytmmpngigaodcgaa.mset], fun k _ hk => by
  simp at hk
  simp [Go.Proofs.Ytmmpngigaodcgaa.mset, Array.getElem?_setIfInBounds_ne (Ne.symm hk)]⟩
section
variable {β : Type} {X : Cx} {ops : Array Oper} {Q : Exit → Act → World → Prop} {ρ : Env} {A B : List HA} {rest : List Oper} {d : Tmp} {ty : TypeId} {ps : String} {af : Array Edge} {v : Value}
theorem WL.makeMap {t : TypeId} {enc : β → Value} (hd : Nat.blt d X.n = true) (h : ∀ b, WL X ops Q rest ((d, .map (some b)) :: ρ) (.blk b (mobj enc [] 0) :: A)) :
    WL X ops Q (⟨some d, .makeMap t none, ty, ps, af, none⟩ :: rest) ρ A :=
  WL.stepE (fun b : Nat => .map (some b)) (fun b => .blk b (mobj enc [] 0) :: A) (fun o ho _ a w f s =>
    ⟨w.heap.size, _, by simp [execOp, ho, run_makeMap_plain]; rfl, s.alloc _⟩) hd h
theorem checkKey_int {P : Program} {w : World} {K : TypeId} (hK : P.underlying K = some (.int .i64)) (e : Bool) (z : Int) : (Instr.checkKey e 10000 K (.int .i64 z)).run P w = .ok () w :=
  MapKept.run_checkKey (k := .int .i64 z) hK (by simp [MapKept.IsKey]) e 9999
theorem findKey_int {P : Program} {w : World} {K : TypeId} (hK : P.underlying K = some (.int .i64)) (enc : β → Value) (M : List (Nat × β × Nat)) (k : Nat) :
    (Instr.findKey K (.int .i64 (k : Int)) (M.map (ment enc)).toArray.toList).run P w = .ok ((fnd M k 0).map fun p => (p.1, enc p.2)) w :=
  MapKept.run_findKey hK (findNow_fnd enc k M 0)
section
variable {n c b k : Nat} {F : Nat → Option β} {M : List (Nat × β × Nat)} {enc : β → Value} {t K E : TypeId} {z : Value} {x y : Operand}
/-- 'v, ok := m[k]'. -/
theorem Yl.lookupOk (hu : X.P.underlying t = some (.map K E)) (hK : X.P.underlying K = some (.int .i64)) (hz : ∀ w, (zeroValue E).run X.P w = .ok z w)
    (hx : ev ρ x = some (.map (some b))) (hy : ev ρ y = some (.int .i64 (k : Int))) (hM : MapIs n F M c) (hm : Has X A b (mobj enc M c)) :
    Yl X (.lookup t x y true) ty ρ A (.tuple #[((F k).map enc).getD z, .bool (F k).isSome]) := Yl.intro fun o ho _ a w f s => by
  have hb : w.heap[b]? = some (mobj enc M c) := hm w s
  have e := hM.fnd_eq k
  simp only [execOp, ho, f.ev hx, f.ev hy, Instr.lookup, Sem.run_bind, run_underlying hu, Result.andThen_ok, run_getObj_map hb, Sem.run_pure, checkKey_int hK, findKey_int hK]
  cases h : fnd M k 0 with
  | none => rw [h] at e; simp [← e, hz]
  | some p => rw [h] at e; simp [← e]
theorem Yl.lookupG {u0 : β} (hu : X.P.underlying t = some (.map K E)) (hK : X.P.underlying K = some (.int .i64)) (hz : ∀ w, (zeroValue E).run X.P w = .ok (enc u0) w)
    (hx : ev ρ x = some (.map (some b))) (hy : ev ρ y = some (.int .i64 (k : Int))) (hM : MapIs n F M c) (hm : Has X A b (mobj enc M c)) :
    Yl X (.lookup t x y false) ty ρ A (enc ((F k).getD u0)) := Yl.intro fun o ho _ a w f s => by
  have hb : w.heap[b]? = some (mobj enc M c) := hm w s
  have e := hM.fnd_eq k
  simp only [execOp, ho, f.ev hx, f.ev hy, Instr.lookup, Sem.run_bind, run_underlying hu, Result.andThen_ok, run_getObj_map hb, Sem.run_pure, checkKey_int hK, findKey_int hK]
  cases h : fnd M k 0 with
  | none => rw [h] at e; simp [← e, hz]
  | some p => rw [h] at e; simp [← e]
theorem Yl.lookup_ {u : β} (hu : X.P.underlying t = some (.map K E)) (hK : X.P.underlying K = some (.int .i64))
    (hx : ev ρ x = some (.map (some b))) (hy : ev ρ y = some (.int .i64 (k : Int))) (hM : MapIs n F M c) (hF : F k = some u) (hm : Has X A b (mobj enc M c)) :
    Yl X (.lookup t x y false) ty ρ A (enc u) := Yl.intro fun o ho _ a w f s => by
  have hb : w.heap[b]? = some (mobj enc M c) := hm w s
  have e := hM.fnd_eq k
  simp only [execOp, ho, f.ev hx, f.ev hy, Instr.lookup, Sem.run_bind, run_underlying hu, Result.andThen_ok, run_getObj_map hb, Sem.run_pure, checkKey_int hK, findKey_int hK]
  cases h : fnd M k 0 with
  | none => rw [h, hF] at e; cases e
  | some p => rw [h, hF] at e; simp at e; simp [e]
theorem Yl.lookupT {u : β} (hu : X.P.underlying t = some (.map K E)) (hK : X.P.underlying K = some (.int .i64)) (hz : ∀ w, (zeroValue E).run X.P w = .ok z w)
    (hx : ev ρ x = some (.map (some b))) (hy : ev ρ y = some (.int .i64 (k : Int))) (hM : MapIs n F M c) (hF : F k = some u) (hm : Has X A b (mobj enc M c)) :
    Yl X (.lookup t x y true) ty ρ A (.tuple #[enc u, .bool true]) := by
  have := Yl.lookupOk (X := X) (ty := ty) hu hK hz hx hy hM hm
  rwa [hF] at this
theorem Yl.lookupF (hu : X.P.underlying t = some (.map K E)) (hK : X.P.underlying K = some (.int .i64)) (hz : ∀ w, (zeroValue E).run X.P w = .ok z w)
    (hx : ev ρ x = some (.map (some b))) (hy : ev ρ y = some (.int .i64 (k : Int))) (hM : MapIs n F M c) (hF : F k = none) (hm : Has X A b (mobj enc M c)) :
    Yl X (.lookup t x y true) ty ρ A (.tuple #[z, .bool false]) := by
  have := Yl.lookupOk (X := X) (ty := ty) hu hK hz hx hy hM hm
  rwa [hF] at this
theorem keyStays {P : Program} {w : World} (z : Int) : (Instr.keyThatStays (.int .i64 z) (.int .i64 z)).run P w = .ok (.int .i64 z) w := by
  simp [Instr.keyThatStays, Instr.sameBits]
theorem WL.mapUpdate {y2 : Operand} {u : β} (hu : X.P.underlying t = some (.map K E)) (hK : X.P.underlying K = some (.int .i64))
    (hx : ev ρ x = some (.map (some b))) (hy : ev ρ y = some (.int .i64 (k : Int))) (hv : ev ρ y2 = some (enc u)) (hM : MapIs n F M c) (hk : k < n) (hp : Pick (.blk b (mobj enc M c)) A B)
    (h : ∀ M' c', MapIs n (setF F k (some u)) M' c' → WL X ops Q rest ρ (.blk b (mobj enc M' c') :: B)) :
    WL X ops Q (⟨none, .mapUpdate t x y y2, ty, ps, af, none⟩ :: rest) ρ A := by
  have hb0 : ∀ w, St X.w0 X.S A w → w.heap[b]? = some (mobj enc M c) := fun w s => (s.pick hp).holds _ (.head _)
  cases hf : fnd M k 0 with
  | none =>
    have e := hM.fnd_eq k
    rw [hf] at e
    refine WL.step0 (fun o ho _ a w f s => ?_) (h _ _ (hM.push e.symm hk))
    have s1 := s.pick hp
    refine ⟨.skip, mset w b (mobj enc (M ++ [(k, u, c)]) (c + 1)), ?_, .inl rfl, s1.put (x := .blk b _) (y := .blk b (mobj enc (M ++ [(k, u, c)]) (c + 1))) rfl rfl (Kept.mset w b _) ?_⟩
    · simp only [execOp, ho, f.ev hx, f.ev hy, f.ev hv, Instr.mapUpdate, Sem.run_bind, run_underlying hu, Result.andThen_ok, run_getObj_map (hb0 w s), checkKey_int hK, findKey_int hK, hf, Option.map_none, run_setObj_map _ (hb0 w s), Sem.run_pure]
      simp [mobj, ment]
    · show (mset w b _).heap[b]? = _
      have := (Array.getElem?_eq_some_iff.1 (hb0 w s)).1
      simp [mset, this]
  | some p =>
    obtain ⟨j, v0⟩ := p
    have e := hM.fnd_eq k
    rw [hf] at e
    obtain ⟨_, b0, hj⟩ := fnd_some hf
    rw [Nat.sub_zero] at hj
    have hmod := mput_modify enc k u hf
    rw [Nat.sub_zero] at hmod
    refine WL.step0 (fun o ho _ a w f s => ?_) (h _ _ (hM.put e.symm))
    have s1 := s.pick hp
    refine ⟨.skip, mset w b (mobj enc (mput M k u) c), ?_, .inl rfl, s1.put (x := .blk b _) (y := .blk b (mobj enc (mput M k u) c)) rfl rfl (Kept.mset w b _) ?_⟩
    · have hkey : (((M.map (ment enc)).toArray[j]?).map (·.key)).getD (.int .i64 (k : Int)) = .int .i64 (k : Int) := by simp [hj, ment]
      simp only [execOp, ho, f.ev hx, f.ev hy, f.ev hv, Instr.mapUpdate, Sem.run_bind, run_underlying hu, Result.andThen_ok, run_getObj_map (hb0 w s), checkKey_int hK, findKey_int hK, hf, Option.map_some, hkey, keyStays, run_setObj_map _ (hb0 w s), Sem.run_pure, List.modify_toArray, hmod]
      rfl
    · show (mset w b _).heap[b]? = _
      have := (Array.getElem?_eq_some_iff.1 (hb0 w s)).1
      simp [mset, this]
theorem WL.mapDelete {ats : Array TypeId} (hu : X.P.underlying t = some (.map K E)) (hK : X.P.underlying K = some (.int .i64)) (ha : ats[0]? = some t)
    (hx : ev ρ x = some (.map (some b))) (hy : ev ρ y = some (.int .i64 (k : Int))) (hM : MapIs n F M c) (hp : Pick (.blk b (mobj enc M c)) A B)
    (h : MapIs n (setF F k none) (mdel M k) c → WL X ops Q rest ρ (.blk b (mobj enc (mdel M k) c) :: B)) :
    WL X ops Q (⟨none, .call { callee := .builtin .delete, args := #[x, y], argTypes := ats }, ty, ps, af, none⟩ :: rest) ρ A := by
  have hb0 : ∀ w, St X.w0 X.S A w → w.heap[b]? = some (mobj enc M c) := fun w s => (s.pick hp).holds _ (.head _)
  have e := hM.fnd_eq k
  have key : ∀ M', (mobj enc M' c) = (mobj enc (mdel M k) c) → (∀ w, St X.w0 X.S A w → ∀ tyo, (Builtin.delete_ ats tyo #[.map (some b), .int .i64 (k : Int)]).run X.P w = .ok (.tuple #[]) (mset w b (mobj enc M' c))) →
      WL X ops Q (⟨none, .call { callee := .builtin .delete, args := #[x, y], argTypes := ats }, ty, ps, af, none⟩ :: rest) ρ A := fun M' he hr => by
    refine WL.step0 (fun o ho _ a w f s => ?_) (h (hM.del k))
    have s1 := s.pick hp
    refine ⟨.value (.tuple #[]), mset w b (mobj enc M' c), ?_, .inr ⟨_, rfl⟩, s1.put (x := .blk b _) (y := .blk b (mobj enc (mdel M k) c)) rfl rfl (Kept.mset w b _) ?_⟩
    · simp only [execOp, ho, resolve, invoke, builtin, Sem.run_bind, Sem.run_pure, Result.andThen_ok, List.map_toArray, List.map_cons, List.map_nil, f.ev hx, f.ev hy, hr w s]
    · show (mset w b _).heap[b]? = _
      have := (Array.getElem?_eq_some_iff.1 (hb0 w s)).1
      simp [mset, this, he]
  cases hf : fnd M k 0 with
  | none =>
    rw [hf] at e
    have hd : mdel M k = M := by
      rw [mdel_filter k hM.keys]
      exact List.filter_eq_self.2 fun x hx => by simpa using fnd_none hf x hx
    refine key M (by rw [hd]) fun w s tyo => ?_
    simp only [Builtin.delete_, ha, Sem.run_bind, run_underlying hu, Result.andThen_ok, run_getObj_map (hb0 w s), checkKey_int hK, findKey_int hK, hf, Option.map_none, run_setObj_map _ (hb0 w s), Sem.run_pure]
    simp [Sem.run_bind, run_underlying hu, Result.andThen_ok, run_getObj_map (hb0 w s), checkKey_int hK, findKey_int hK, hf, run_setObj_map _ (hb0 w s), mobj]
  | some p =>
    obtain ⟨j, v0⟩ := p
    have her := mdel_erase enc k hf
    rw [Nat.sub_zero] at her
    refine key (mdel M k) rfl fun w s tyo => ?_
    simp [Builtin.delete_, ha, Sem.run_bind, run_underlying hu, Result.andThen_ok, run_getObj_map (hb0 w s), checkKey_int hK, findKey_int hK, hf, run_setObj_map _ (hb0 w s), mobj, her]
end
end
end Go.Proofs.Ytmmpngigaodcgaa
